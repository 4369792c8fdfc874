/- Contracts of octet.ReadNumber and of the reference's. For every slice of bytes that can be read. -/
import Derived.Test.YtdgmhegcoogokaaDoorOctB
import Derived.BigQuiet
import Derived.Deep.QuietTactic
namespace Go.Proofs.YtdgmhegcoogokaaDoor
open Go.RowKit
set_option linter.unusedVariables false

/-- What octet.ReadNumber tells of bytes: the number, how many bytes it has, the error's number. -/
def readN (l : List UInt8) : Nat × Nat × Nat :=
  match l with
  | [] => (0, 0, 120)
  | h :: t => if 8 < h.toNat ∨ t.length < h.toNat then (0, 0, 120)
    else if needN (rdN (t.take h.toNat)) = h.toNat then (rdN (t.take h.toNat), 1 + h.toNat, 0) else (0, 0, 120)

def ReadPost (w : World) (r : Nat × Nat × Nat) (e : Ending) (w' : World) : Prop :=
  e = .returned (.tuple #[.int .u64 (r.1 : Int), .int .i64 (r.2.1 : Int), .int .i64 (r.2.2 : Int)]) ∧ Below w.heap.size w w'

/-- What holds where octet.ReadNumber jumps to its label. -/
def AtWrong (w : World) (a : Act) (w' : World) : Prop := (∃ u0 u1 u2 u3 u4 u5 u6 u7 u8 u9 u10 u11 u12 u13 u14 u15 u16 u17 u18 u19 u20 u21 u22 u23 u24 u25 u26 u27 u28 u29 u30 u31 u32 u33 u34 u35 u36 u37 u38 u39 u40 u41 u42 u43 u44 u45 u46 u47 u48 u49 u50 u51 u52 : Value, a = ⟨#[u0, u1, u2, u3, u4, u5, u6, u7, u8, u9, u10, u11, u12, u13, u14, u15, u16, u17, u18, u19, u20, u21, u22, u23, u24, u25, u26, u27, u28, u29, u30, u31, u32, u33, u34, u35, u36, u37, u38, u39, u40, u41, u42, u43, u44, u45, u46, u47, u48, u49, u50, u51, u52], []⟩) ∧ Below w.heap.size w w'

theorem ReadNumber_wrong (A : Option Addr) (n c : Nat) (l : List UInt8) (w : World) (hr : Rd w A n c l) (hw : l = [] ∨ ∃ h t, l = h :: t ∧ (8 < h.toNat ∨ t.length < h.toNat)) :
    Calls Tryd.prog 46 #[.slice A n c] w (ReadPost w (0, 0, 120)) := by
  have hcap := hr.cap
  have hle := hr.le
  have hlen := hr.len
  go_enter Tryd.func46, Tryd.ntmps46
  go_wp2
  refine wp_scope_jumps 0 (AtWrong w) (fun _ _ => 0) rfl ?first ?pass
  case first =>
    rcases hw with rfl | ⟨h, t, rfl, hw⟩
    · obtain rfl : n = 0 := by simpa using hlen.symm
      go_wp2
      go_step3
      simp only [Exit.then, Exit.jump]
      exact ⟨trivial, ⟨_, _, _, _, _, _, _, _, _, _, _, _, _, _, _, _, _, _, _, _, _, _, _, _, _, _, _, _, _, _, _, _, _, _, _, _, _, _, _, _, _, _, _, _, _, _, _, _, _, _, _, _, _, rfl⟩, (Below.refl _ w).alloc (Nat.le_refl _) _⟩
    · have hn : n = t.length + 1 := by simpa using hlen.symm
      have hn0 : ((n : Int) == 0) = false := by simp; omega
      obtain ⟨b, off, rfl, hb, hc⟩ := hr.open (by omega)
      have hc0 : w.cell? ⟨b, off, none⟩ = some (.int .u8 (h.toNat : Int)) := hc 0 (by simp)
      have hh := h.toNat_lt
      clear hc hr hlen
      have HN := Lib.hid hn
      have hn1 : n ≤ t.length + 1 := by omega
      have hn2 : t.length + 1 ≤ n := by omega
      clear hn
      by_cases h8 : 8 < h.toNat
      · have hd8 : decide ((8 : Int) < (h.toNat : Int)) = true := by simp; omega
        clear hw
        go_wp2
        go_step3
        simp only [Exit.then, Exit.jump]
        exact ⟨trivial, ⟨_, _, _, _, _, _, _, _, _, _, _, _, _, _, _, _, _, _, _, _, _, _, _, _, _, _, _, _, _, _, _, _, _, _, _, _, _, _, _, _, _, _, _, _, _, _, _, _, _, _, _, _, _, rfl⟩, (Below.refl _ w).alloc (Nat.le_refl _) _⟩
      · have hw : t.length < h.toNat := by omega
        have hd8 : decide ((8 : Int) < (h.toNat : Int)) = false := by simp; omega
        go_wp2
        go_step3
        simp only [Exit.then, Exit.jump]
        exact ⟨trivial, ⟨_, _, _, _, _, _, _, _, _, _, _, _, _, _, _, _, _, _, _, _, _, _, _, _, _, _, _, _, _, _, _, _, _, _, _, _, _, _, _, _, _, _, _, _, _, _, _, _, _, _, _, _, _, rfl⟩, (Below.refl _ w).alloc (Nat.le_refl _) _⟩
  case pass =>
    rintro a w' ⟨⟨u0, u1, u2, u3, u4, u5, u6, u7, u8, u9, u10, u11, u12, u13, u14, u15, u16, u17, u18, u19, u20, u21, u22, u23, u24, u25, u26, u27, u28, u29, u30, u31, u32, u33, u34, u35, u36, u37, u38, u39, u40, u41, u42, u43, u44, u45, u46, u47, u48, u49, u50, u51, u52, rfl⟩, hb⟩
    go_wp2
    simp only [Exit.jump]
    exact bodyPost_ret (results_tmp3 rfl _ _ _) rfl ⟨rfl, hb⟩

theorem readN_cons (h : UInt8) (t : List UInt8) (h8 : h.toNat ≤ 8) (ht : h.toNat ≤ t.length) :
    readN (h :: t) = if needN (rdN (t.take h.toNat)) = h.toNat then (rdN (t.take h.toNat), 1 + h.toNat, 0) else (0, 0, 120) := by
  unfold readN
  simp only
  rw [if_neg (by omega)]

theorem Rd.tail_take {w : World} {b off n c : Nat} {h : UInt8} {t : List UInt8} (hr : Rd w (some ⟨b, off, none⟩) n c (h :: t)) (k : Nat) (hk : k ≤ t.length) : Rd w (some ⟨b, off + 1, none⟩) k k (t.take k) := by
  have hl := hr.len
  have hle := hr.le
  have hcap := hr.2.2.1
  simp at hl
  refine ⟨by simp; omega, Nat.le_refl _, by omega, fun hn => ?_⟩
  obtain ⟨b', off', hA, hb, hc⟩ := hr.2.2.2 (by omega)
  simp at hA
  obtain ⟨rfl, rfl⟩ := hA
  refine ⟨_, _, rfl, hb, fun j u hu => ?_⟩
  have h3 := hc (j + 1) u (by simp [List.getElem?_take] at hu ⊢; exact hu.2)
  rw [show off + 1 + j = off + (j + 1) from by omega]
  exact h3

theorem ReadNumber_fine (A : Option Addr) (n c : Nat) (h : UInt8) (t : List UInt8) (w : World) (hr : Rd w A n c (h :: t)) (h8 : h.toNat ≤ 8) (ht : h.toNat ≤ t.length) (hp : 0 < h.toNat) :
    Calls Tryd.prog 46 #[.slice A n c] w (ReadPost w (readN (h :: t))) := by
  have hcap := hr.cap
  have hle := hr.le
  have hlen := hr.len
  have HR := Lib.hid (readN_cons h t h8 ht)
  generalize readN (h :: t) = R at *
  have hn : n = t.length + 1 := by simpa using hlen.symm
  have hn0 : ((n : Int) == 0) = false := by simp; omega
  obtain ⟨b, off, rfl, hb, hc⟩ := hr.open (by omega)
  have hc0 : w.cell? ⟨b, off, none⟩ = some (.int .u8 (h.toNat : Int)) := hc 0 (by simp)
  have hh := h.toNat_lt
  have htl := hr.tail_take h.toNat ht
  have hlt := rdN_lt (t.take h.toNat)
  have hlt2 : rdN (t.take h.toNat) < 18446744073709551616 := by
    have h2 : 256 ^ (t.take h.toNat).length ≤ 256 ^ 8 := Nat.pow_le_pow_right (by omega) (by have := List.length_take_le h.toNat t; omega)
    omega
  generalize h.toNat = k at *
  generalize t.take k = s at *
  clear hc hr hlen hlt
  have hn1 : k + 1 ≤ n := by omega
  clear hn ht
  have hd8 : decide ((8 : Int) < (k : Int)) = false := by simp; omega
  have hd9 : decide ((n : Int) - 1 < (k : Int)) = false := by simp; omega
  have hneed := needN_le (rdN s) hlt2
  go_enter Tryd.func46, Tryd.ntmps46
  go_wp2
  refine wp_scope_jumps 0 (fun a w' => AtWrong w a w' ∧ R = (0, 0, 120)) (fun _ _ => 0) rfl ?first ?pass
  case first =>
    go_wp2_with fail
    refine (number_any (some ⟨b, off + 1, none⟩) k k s _ (htl.below ((Below.refl _ _).alloc (Nat.le_refl _) _)) h8).mono ?_
    rintro e w1 ⟨rfl, rfl⟩
    by_cases hq : needN (rdN s) = k
    · have hqb : (((needN (rdN s) : Nat) : Int) != (k : Int)) = false := by simp; omega
      have HQ := Lib.hid hq
      clear hq
      go_wp2_with fail
      go_quiet ((go_at_call 69; exact quiet_left (need_any _ _ (by omega) (by omega))))
      go_wp2_with fail
      go_quiet (fail)
      go_wp2_with fail
      simp only [Exit.jump]
      refine bodyPost_ret (results_tmp3 rfl _ _ _) rfl ⟨?_, below_drewN (below_drewN ((Below.refl _ w).alloc (Nat.le_refl _) _) _) _⟩
      rw [HR.out, if_pos HQ.out]
      simp
    · have hqb : (((needN (rdN s) : Nat) : Int) != (k : Int)) = true := by simp; omega
      have HQ := Lib.hid hq
      clear hq
      go_wp2_with fail
      go_quiet ((go_at_call 69; exact quiet_left (need_any _ _ (by omega) (by omega))))
      go_wp2
      go_step3
      simp only [Exit.then]
      exact ⟨rfl, ⟨⟨_, _, _, _, _, _, _, _, _, _, _, _, _, _, _, _, _, _, _, _, _, _, _, _, _, _, _, _, _, _, _, _, _, _, _, _, _, _, _, _, _, _, _, _, _, _, _, _, _, _, _, _, _, rfl⟩, below_drewN ((Below.refl _ w).alloc (Nat.le_refl _) _) _⟩, by rw [HR.out, if_neg HQ.out]⟩
  case pass =>
    rintro a w' ⟨⟨⟨u0, u1, u2, u3, u4, u5, u6, u7, u8, u9, u10, u11, u12, u13, u14, u15, u16, u17, u18, u19, u20, u21, u22, u23, u24, u25, u26, u27, u28, u29, u30, u31, u32, u33, u34, u35, u36, u37, u38, u39, u40, u41, u42, u43, u44, u45, u46, u47, u48, u49, u50, u51, u52, rfl⟩, hb⟩, hR⟩
    have HR2 := Lib.hid hR
    clear hR
    go_wp2
    simp only [Exit.jump]
    exact bodyPost_ret (results_tmp3 rfl _ _ _) rfl ⟨by rw [HR2.out]; rfl, hb⟩

theorem needN_zero : needN 0 = 0 := by decide

theorem ReadNumber_zero (A : Option Addr) (n c : Nat) (t : List UInt8) (w : World) (hr : Rd w A n c (0 :: t)) :
    Calls Tryd.prog 46 #[.slice A n c] w (ReadPost w (0, 1, 0)) := by
  have hcap := hr.cap
  have hle := hr.le
  have hlen := hr.len
  have hn : n = t.length + 1 := by simpa using hlen.symm
  have hn0 : ((n : Int) == 0) = false := by simp; omega
  obtain ⟨b, off, rfl, hb, hc⟩ := hr.open (by omega)
  have hc0 : w.cell? ⟨b, off, none⟩ = some (.int .u8 0) := hc 0 (by simp)
  have hn1 : 1 ≤ n := by omega
  clear hc hr hlen hn
  have hd9 : decide ((n : Int) - 1 < (0 : Int)) = false := by simp; omega
  have HZ := Lib.hid needN_zero
  go_enter Tryd.func46, Tryd.ntmps46
  go_wp2
  refine wp_scope_jumps 0 (fun a w' => False) (fun _ _ => 0) rfl ?first (fun _ _ h => h.elim)
  go_wp2_with fail
  refine (number_any (some ⟨b, off, none⟩) 0 0 [] _ ⟨rfl, Nat.le_refl _, Nat.zero_le _, fun h => absurd h (Nat.lt_irrefl _)⟩ (by omega)).mono ?_
  rintro e w1 ⟨rfl, rfl⟩
  have hqb : (((needN 0 : Nat) : Int) != 0) = false := by rw [HZ.out]; rfl
  have hneed : needN 0 ≤ 8 := by rw [HZ.out]; omega
  simp only [rdN, List.foldl_nil]
  go_wp2_with fail
  go_quiet ((go_at_call 69; exact quiet_left (need_any 0 _ (by omega) (by omega))))
  go_wp2_with fail
  go_quiet (fail)
  go_wp2_with fail
  simp only [Exit.jump]
  exact bodyPost_ret (results_tmp3 rfl _ _ _) rfl ⟨rfl, below_drewN (below_drewN ((Below.refl _ w).alloc (Nat.le_refl _) _) _) _⟩

theorem ReadNumber_any (A : Option Addr) (n c : Nat) (l : List UInt8) (w : World) (hr : Rd w A n c l) :
    Calls Tryd.prog 46 #[.slice A n c] w (ReadPost w (readN l)) := by
  match l, hr with
  | [], hr => exact ReadNumber_wrong A n c [] w hr (.inl rfl)
  | h :: t, hr =>
    by_cases hw : 8 < h.toNat ∨ t.length < h.toNat
    · have e : readN (h :: t) = (0, 0, 120) := by unfold readN; simp only; rw [if_pos hw]
      rw [e]
      exact ReadNumber_wrong A n c _ w hr (.inr ⟨h, t, rfl, hw⟩)
    · by_cases hz : h.toNat = 0
      · obtain rfl : h = 0 := UInt8.toNat_inj.1 hz
        have e : readN (0 :: t) = (0, 1, 0) := by
          rw [readN_cons 0 t (by decide) (by simp)]
          simp [rdN, needN_zero]
        rw [e]
        exact ReadNumber_zero A n c t w hr
      · exact ReadNumber_fine A n c h t w hr (by omega) (by omega) (by omega)
end Go.Proofs.YtdgmhegcoogokaaDoor