/- Columns; which names may be (the reference). -/
import Derived.Test.YtagoooclfcbdeaaGreatDoorVl
import Derived.Test.YtagoooclfcbdeaaGreatDoorReg
namespace Go.Proofs.YtagoooclfcbdeaaGreatDoor
open Go.RowKit
set_option linter.unusedVariables false

/-- A column. -/
structure Cl where
  n : List UInt8
  t : Int
  z : Int
  nl : Bool
def Cl.cells (c : Cl) : List Value := [.string (strL c.n), .int .i64 c.t, .int .i64 c.z, .bool c.nl]
def Cl.val (c : Cl) : Value := .agg #[.string (strL c.n), .int .i64 c.t, .int .i64 c.z, .bool c.nl]
/-- A column in a box of its own. -/
def CBox (W : World) (B : Nat) (c : Cl) : Prop := W.heap[B]? = some (.cells #[.string (strL c.n), .int .i64 c.t, .int .i64 c.z, .bool c.nl] 24 (0, 0))
theorem CBox.new (w : World) (c : Cl) : CBox (w.alloc (.cells #[.string (strL c.n), .int .i64 c.t, .int .i64 c.z, .bool c.nl] 24)) w.heap.size c := World.alloc_heap_new w _
theorem CBox.lt {W : World} {B : Nat} {c : Cl} (h : CBox W B c) : B < W.heap.size := (Array.getElem?_eq_some_iff.1 h).1
theorem CBox.below {W W' : World} {B : Nat} {c : Cl} {base : Nat} (h : CBox W B c) (hb : Below base W W') (hB : B < base) : CBox W' B c := (hb.block B hB).trans h
theorem CBox.cells {W : World} {B : Nat} {c : Cl} (h : CBox W B c) : W.cell? ⟨B, 0, none⟩ = some (.string (strL c.n)) ∧ W.cell? ⟨B, 1, none⟩ = some (.int .i64 c.t) ∧ W.cell? ⟨B, 2, none⟩ = some (.int .i64 c.z) ∧ W.cell? ⟨B, 3, none⟩ = some (.bool c.nl) := by
  unfold CBox at h
  simp [World.cell?, h]

def isSmall (c : UInt8) : Bool := decide (97 ≤ c.toNat ∧ c.toNat ≤ 122)
def isMore (c : UInt8) : Bool := decide (c.toNat = 95 ∨ (48 ≤ c.toNat ∧ c.toNat ≤ 57))
def goodP : List UInt8 → Bool
  | [] => true
  | c :: r => isSmall c && r.all fun c => isSmall c || isMore c
/-- May a name be? -/
def nameV (l : List UInt8) : Bool := goodP l && decide (1 ≤ l.length ∧ l.length ≤ 24)
theorem goodP_snoc (l : List UInt8) (c : UInt8) : goodP (l ++ [c]) = (goodP l && (if l = [] then isSmall c else isSmall c || isMore c)) := by
  cases l with
  | nil => simp [goodP]
  | cons a r => simp [goodP, Bool.and_assoc]
theorem goodP_false {l : List UInt8} {i : Nat} (h : goodP (l.take i) = false) : nameV l = false := by
  unfold nameV
  have e : goodP l = false := by
    rw [← List.take_append_drop i l]
    generalize l.drop i = m
    revert h
    generalize l.take i = k
    intro h
    induction m generalizing k with
    | nil => simpa using h
    | cons c m ih =>
      have := ih (k ++ [c]) (by rw [goodP_snoc, h, Bool.false_and])
      simpa using this
  rw [e, Bool.false_and]

attribute [local go_sem] strL_size
set_option maxRecDepth 100000 in
set_option maxHeartbeats 2000000 in
theorem Name_any (l : List UInt8) (w : World) (hl : l.length ≤ 100000) : Calls Tryz.prog 65 #[.string (strL l)] w fun e w' => e = .returned (.bool (nameV l)) ∧ w = w' := by
  go_enter Tryz.func65, Tryz.ntmps65
  go_wp2
  go_loop [3] (fun p => ∃ i : Nat, i ≤ l.length ∧ p = .int .i64 (i : Int) ∧ goodP (l.take i) = true) (fun p => l.length - (intOf p).toNat)
  case atStart => exact ⟨0, by omega, rfl, rfl⟩
  case round =>
    obtain ⟨i, hi, rfl, hgd⟩ := hrel
    by_cases hlt : i < l.length
    · have htk : l.take (i + 1) = l.take i ++ [l[i]] := List.take_succ_eq_append_getElem hlt
      have hsn := goodP_snoc (l.take i) l[i]
      rw [← htk, hgd, Bool.true_and] at hsn
      have hemp : (l.take i = []) ↔ i = 0 := by
        rw [List.take_eq_nil_iff]
        constructor
        · rintro (h | h)
          · exact h
          · rw [h] at hlt; simp at hlt
        · exact .inl
      obtain ⟨c, ec⟩ : ∃ c, l[i]'hlt = c := ⟨_, rfl⟩
      have hget : ∀ h, (strL l)[i]'h = c := fun h => ec
      rw [ec] at hsn
      have hgood : (isSmall c = true ∨ (i ≠ 0 ∧ isMore c = true)) → goodP (l.take (i + 1)) = true := fun h => by
        rw [hsn]
        by_cases h0 : i = 0
        · rw [if_pos (hemp.2 h0)]
          rcases h with h | h
          · exact h
          · exact absurd h0 h.1
        · rw [if_neg (fun e => h0 (hemp.1 e))]
          rcases h with h | h
          · rw [h]; rfl
          · rw [h.2]; simp
      have hbad : ¬ (isSmall c = true ∨ (i ≠ 0 ∧ isMore c = true)) → nameV l = false := fun h => goodP_false (i := i + 1) (by
        rw [hsn]
        by_cases h0 : i = 0
        · rw [if_pos (hemp.2 h0)]
          simpa using fun e => h (.inl e)
        · rw [if_neg (fun e => h0 (hemp.1 e))]
          cases e1 : isSmall c with
          | true => exact absurd (.inl e1) h
          | false =>
            cases e2 : isMore c with
            | true => exact absurd (.inr ⟨h0, e2⟩) h
            | false => rfl)
      have hlt1 : decide ((i : Int) < (l.length : Int)) = true := by simp; omega
      clear htk hsn hemp ec
      have iS : isSmall c = true ↔ 97 ≤ c.toNat ∧ c.toNat ≤ 122 := by simp [isSmall]
      have iM : isMore c = true ↔ c.toNat = 95 ∨ (48 ≤ c.toNat ∧ c.toNat ≤ 57) := by simp [isMore]
      by_cases s1 : 97 ≤ c.toNat
      · have d1 : decide ((97 : Int) ≤ (c.toNat : Int)) = true := by simp; omega
        by_cases s2 : c.toNat ≤ 122
        · have d2 : decide ((c.toNat : Int) ≤ 122) = true := by simp; omega
          have hq := hgood (.inl (iS.2 ⟨s1, s2⟩))
          clear hgood hbad iS iM s1 s2
          replace hq := Lib.hid hq
          clear hgd
          go_wp2
          go_round
          case rel => exact ⟨i + 1, by omega, by go_num, hq.out⟩
          case measure => simp [intOf]; omega
        · have d2 : decide ((c.toNat : Int) ≤ 122) = false := by simp; omega
          have hno : ¬ (isSmall c = true ∨ (i ≠ 0 ∧ isMore c = true)) := by rw [iS, iM]; omega
          have d3 : ((c.toNat : Int) != 95) = true := by simp; omega
          have d4 : decide ((c.toNat : Int) < 48) = false := by simp; omega
          have d5 : decide ((57 : Int) < (c.toNat : Int)) = true := by simp; omega
          clear iS iM s1 s2
          by_cases h0 : i = 0
          · subst h0
            have hN := hbad hno
            replace hN := Lib.hid hN
            clear hgd hbad hgood
            go_wp2
            go_ret
            exact ⟨by rw [hN.out]; rfl, rfl⟩
          · have d0 : ((i : Int) == 0) = false := by simp; omega
            have hN := hbad hno
            replace hN := Lib.hid hN
            clear hgd hbad hgood
            go_wp2
            go_ret
            exact ⟨by rw [hN.out]; rfl, rfl⟩
      · have d1 : decide ((97 : Int) ≤ (c.toNat : Int)) = false := by simp; omega
        by_cases h0 : i = 0
        · subst h0
          have hno : ¬ (isSmall c = true ∨ ((0 : Nat) ≠ 0 ∧ isMore c = true)) := by rw [iS]; omega
          clear iS iM s1
          have hN := hbad hno
          replace hN := Lib.hid hN
          clear hgd hbad hgood
          go_wp2
          go_ret
          exact ⟨by rw [hN.out]; rfl, rfl⟩
        · have d0 : ((i : Int) == 0) = false := by simp; omega
          by_cases s3 : c.toNat = 95
          · have d3 : ((c.toNat : Int) != 95) = false := by simp; omega
            have hq := hgood (.inr ⟨h0, iM.2 (.inl s3)⟩)
            clear hgood hbad iS iM s1 s3
            replace hq := Lib.hid hq
            clear hgd
            go_wp2
            go_round
            case rel => exact ⟨i + 1, by omega, by go_num, hq.out⟩
            case measure => simp [intOf]; omega
          · have d3 : ((c.toNat : Int) != 95) = true := by simp; omega
            by_cases s4 : c.toNat < 48
            · have d4 : decide ((c.toNat : Int) < 48) = true := by simp; omega
              have hno : ¬ (isSmall c = true ∨ (i ≠ 0 ∧ isMore c = true)) := by rw [iS, iM]; omega
              clear iS iM s1 s3 s4
              have hN := hbad hno
              replace hN := Lib.hid hN
              clear hgd hbad hgood
              go_wp2
              go_ret
              exact ⟨by rw [hN.out]; rfl, rfl⟩
            · have d4 : decide ((c.toNat : Int) < 48) = false := by simp; omega
              by_cases s5 : 57 < c.toNat
              · have d5 : decide ((57 : Int) < (c.toNat : Int)) = true := by simp; omega
                have hno : ¬ (isSmall c = true ∨ (i ≠ 0 ∧ isMore c = true)) := by rw [iS, iM]; omega
                clear iS iM s1 s3 s4 s5
                have hN := hbad hno
                replace hN := Lib.hid hN
                clear hgd hbad hgood
                go_wp2
                go_ret
                exact ⟨by rw [hN.out]; rfl, rfl⟩
              · have d5 : decide ((57 : Int) < (c.toNat : Int)) = false := by simp; omega
                have hq := hgood (.inr ⟨h0, iM.2 (.inr ⟨by omega, by omega⟩)⟩)
                clear hgood hbad iS iM s1 s3 s4 s5
                replace hq := Lib.hid hq
                clear hgd
                go_wp2
                go_round
                case rel => exact ⟨i + 1, by omega, by go_num, hq.out⟩
                case measure => simp [intOf]; omega
    · obtain rfl : i = l.length := by omega
      rw [List.take_length] at hgd
      have hlt1 : decide ((l.length : Int) < (l.length : Int)) = false := by simp
      by_cases h1 : 1 ≤ l.length
      · have d1 : decide ((1 : Int) ≤ (l.length : Int)) = true := by simp; omega
        have hN : nameV l = decide ((l.length : Int) ≤ 24) := by
          unfold nameV
          rw [hgd, Bool.true_and]
          simp [h1]
          omega
        replace hN := Lib.hid hN
        clear hgd hlt
        go_wp2
        go_ret
        exact ⟨by rw [hN.out]; rfl, rfl⟩
      · have d1 : decide ((1 : Int) ≤ (l.length : Int)) = false := by simp; omega
        have hN : nameV l = false := by
          unfold nameV
          simp; omega
        replace hN := Lib.hid hN
        clear hgd hlt
        go_wp2
        go_ret
        exact ⟨by rw [hN.out]; rfl, rfl⟩
end Go.Proofs.YtagoooclfcbdeaaGreatDoor
