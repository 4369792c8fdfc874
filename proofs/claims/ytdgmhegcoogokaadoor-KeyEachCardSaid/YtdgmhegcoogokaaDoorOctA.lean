/- Contracts of the package octet's small functions: need, of and what it makes. For every uint64. -/
import Derived.Test.YtdgmhegcoogokaaDoorProg
import Derived.Test.YtdgmhegcoogokaaDoorBase
import Derived.Test.YtdgmhegcoogokaaDoorLen
namespace Go.Proofs.YtdgmhegcoogokaaDoor
open Go.RowKit
set_option linter.unusedVariables false

theorem bitLen_le64 (n : Nat) (h : n < 18446744073709551616) : Lib.bitLen n ≤ 64 := Lib.bitLen_le n 64 (Nat.le_refl _) h

def needN (n : Nat) : Nat := (Lib.bitLen n + 7) / 8

theorem need_any (x : Int) (w : World) (h0 : 0 ≤ x) (h1 : x ≤ 18446744073709551615) :
    Calls Tryd.prog 69 #[.int .u64 x] w fun e w' => e = .returned (.int .i64 (needN x.toNat)) ∧ w = w' := by
  have hb := bitLen_le64 x.toNat (by omega)
  go_enter Tryd.func69, Tryd.ntmps69
  go_wp2_with (go_at_call 80; refine (Len64_any _ _ h0 h1).mono ?_; rintro e w' ⟨rfl, rfl⟩)
  go_ret
  refine ⟨ret_int ?_, rfl⟩
  unfold needN
  omega

theorem of1_any (x i : Int) (B : Nat) (w : World) (h0 : 0 ≤ x) (h1 : x ≤ 18446744073709551615) (hi0 : 0 ≤ i) (hi : i ≤ 7) (hc : w.cell? ⟨B, 0, none⟩ = some (.int .u64 x)) :
    Calls Tryd.prog 81 #[.int .i64 i, .pointer (some ⟨B, 0, none⟩)] w fun e w' => e = .returned (.int .u8 ((x.toNat / 2 ^ (8 * i.toNat) % 256 : Nat) : Int)) ∧ w = w' := by
  obtain ⟨k, rfl⟩ := Int.eq_ofNat_of_zero_le hi0
  go_enter Tryd.func81, Tryd.ntmps81
  go_wp2
  go_ret
  refine ⟨ret_int ?_, rfl⟩
  obtain ⟨n, rfl⟩ := Int.eq_ofNat_of_zero_le h0
  simp

theorem of_any (x : Int) (w : World) :
    Calls Tryd.prog 71 #[.int .u64 x] w fun e w' => e = .returned (.func (.func 81) #[] #[.pointer (some ⟨w.heap.size, 0, none⟩)]) ∧ w' = w.alloc (.cells #[.int .u64 x] 40) := by
  go_enter Tryd.func71, Tryd.ntmps71
  go_wp2
  go_ret
  exact ⟨rfl, rfl⟩

/-- The number of bytes, the highest first. -/
def rdN (l : List UInt8) : Nat := l.foldl (fun n b => n * 256 + b.toNat) 0
theorem rdN_snoc (l : List UInt8) (b : UInt8) : rdN (l ++ [b]) = rdN l * 256 + b.toNat := by simp [rdN]
theorem rdN_foldl (l : List UInt8) : ∀ n, l.foldl (fun n b => n * 256 + b.toNat) n < (n + 1) * 256 ^ l.length := by
  induction l with
  | nil => intro n; simp
  | cons b l ih =>
    intro n
    have h := ih (n * 256 + b.toNat)
    have hb := b.toNat_lt
    simp only [List.foldl_cons, List.length_cons, Nat.pow_succ]
    refine Nat.lt_of_lt_of_le h ?_
    rw [Nat.mul_comm (256 ^ l.length) 256, ← Nat.mul_assoc]
    exact Nat.mul_le_mul_right _ (by omega)
theorem rdN_lt (l : List UInt8) : rdN l < 256 ^ l.length := by
  have h := rdN_foldl l 0
  rw [Nat.zero_add, Nat.one_mul] at h
  exact h
theorem rdN_lt56 (l : List UInt8) (k n : Nat) (hk : k < n) (hn : n ≤ 8) : rdN (l.take k) < 72057594037927936 := by
  have h := rdN_lt (l.take k)
  have h2 : 256 ^ (l.take k).length ≤ 256 ^ 7 := Nat.pow_le_pow_right (by omega) (by have := List.length_take_le k l; omega)
  omega
theorem rdN_take (l : List UInt8) (k : Nat) (h : k < l.length) : rdN (l.take (k + 1)) = rdN (l.take k) * 256 + l[k].toNat := by
  rw [List.take_succ_eq_append_getElem h, rdN_snoc]

theorem bits_or_join8 (a b : Nat) (ha : a < 72057594037927936) (hb : b < 2 ^ 8) : bits .or .u64 ((a : Int) * 256) (b : Int) = ((a * 256 + b : Nat) : Int) := by
  have h := bits_or_u64_nat (a * 256) b (by omega) (by omega)
  rw [Nat.or_comm, nat_join8' (a * 256) b (by omega) (by omega)] at h
  rw [← h]
  simp

theorem number_any (A : Option Addr) (n c : Nat) (l : List UInt8) (w : World) (h : Rd w A n c l) (hn : n ≤ 8) :
    Calls Tryd.prog 72 #[.slice A n c] w fun e w' => e = .returned (.int .u64 (rdN l)) ∧ w = w' := by
  have hl := h.len
  have hnc := h.le
  have hcm := h.cap
  go_enter Tryd.func72, Tryd.ntmps72
  go_wp2
  go_loop [2, 4, 7] (fun r x i => ∃ k : Nat, k ≤ n ∧ i = .int .i64 k ∧ r = .int .u64 (rdN (l.take k))) (fun _ _ i => n - (intOf i).toNat)
  case atStart => exact ⟨0, Nat.zero_le _, rfl, rfl⟩
  case round =>
    obtain ⟨k, hk, rfl, rfl⟩ := hrel
    by_cases hlt : k < n
    · obtain ⟨b, off, rfl, hb, hc⟩ := h.open (by omega)
      have hck := hc k (by omega)
      have h56 := rdN_lt56 l k n hlt hn
      have hby := l[k].toNat_lt
      have HS := Lib.hid (rdN_take l k (by omega))
      clear hc h
      go_wp2
      refine ⟨⟨k + 1, by omega, by go_num, ?_⟩, by simp [intOf]; omega⟩
      rw [HS.out, bits_or_join8 _ _ h56 hby]
    · obtain rfl : k = n := by omega
      go_wp2
      go_ret
      refine ⟨ret_int ?_, rfl⟩
      rw [List.take_of_length_le (by omega)]

theorem read_any (A : Option Addr) (n c : Nat) (l : List UInt8) (w : World) (h : Rd w A n c l) (hn : n ≤ 8) :
    Calls Tryd.prog 55 #[.slice A n c] w fun e w' => e = .returned (.int .u64 (rdN l)) ∧ w = w' := by
  have hl := h.len
  have hnc := h.le
  have hcm := h.cap
  go_enter Tryd.func55, Tryd.ntmps55
  go_wp2
  go_loop [3, 4] (fun r i => ∃ k : Nat, k ≤ n ∧ i = .int .i64 k ∧ r = .int .u64 (rdN (l.take k))) (fun _ i => n - (intOf i).toNat)
  case atStart => exact ⟨0, Nat.zero_le _, rfl, rfl⟩
  case round =>
    obtain ⟨k, hk, rfl, rfl⟩ := hrel
    by_cases hlt : k < n
    · obtain ⟨b, off, rfl, hb, hc⟩ := h.open (by omega)
      have hck := hc k (by omega)
      have h56 := rdN_lt56 l k n hlt hn
      have hby := l[k].toNat_lt
      have HS := Lib.hid (rdN_take l k (by omega))
      clear hc h
      go_wp2
      refine ⟨⟨k + 1, by omega, by go_num, ?_⟩, by simp [intOf]; omega⟩
      rw [HS.out]
      exact congrArg (Value.int .u64) (by omega)
    · obtain rfl : k = n := by omega
      go_wp2
      go_ret
      refine ⟨ret_int ?_, rfl⟩
      rw [List.take_of_length_le (by omega)]

/-- So many bytes of a number, the highest first. -/
def beB (n : Nat) : Nat → List UInt8
  | 0 => []
  | k + 1 => UInt8.ofNat (n / 2 ^ (8 * k)) :: beB n k
theorem beB_length (n k : Nat) : (beB n k).length = k := by induction k with
  | zero => rfl
  | succ k ih => simp [beB, ih]

theorem ofNat_shift (x k : Nat) : UInt8.ofNat ((x : Int) / 2 ^ k % 256).toNat = UInt8.ofNat (x / 2 ^ k) := by
  have e : ((x : Int) / 2 ^ k % 256).toNat = x / 2 ^ k % 256 := by
    have h : ((x : Int) / 2 ^ k % 256) = ((x / 2 ^ k % 256 : Nat) : Int) := by simp
    rw [h, Int.toNat_natCast]
  rw [e]
  apply UInt8.toNat_inj.1
  simp

def LaidPost (w : World) (base : Nat) (A : Option Addr) (n : Nat) (l : List UInt8) (e : Ending) (w' : World) : Prop :=
  ∃ A' c', e = .returned (.slice A' n c') ∧ Ob w' base 5 A' n c' l ∧ Below base w w' ∧ (ab A' = ab A ∨ ∃ g, ab A' = some g ∧ w.heap.size ≤ g)

theorem cell_of_below_ne {w w' : World} {row : Option Nat} {B : Nat} {v : Value} (hc : w.cell? ⟨B, 0, none⟩ = some v) (hg : w.grownBy w' row) (hne : row ≠ some B) : w'.cell? ⟨B, 0, none⟩ = some v :=
  hg.cell hc (fun h => hne h.symm)

theorem info_u8 : (Tryd.prog.info? 5).map (fun i => (i.zero, i.size, i.bytes)) = some (some (.int .u8 0), 1, 1) := by kernel_rfl

/-- A cell of a slice literal of one byte. -/
theorem Rd.one (w : World) (b : Int) (e : TypeId) (h0 : 0 ≤ b) (h1 : b ≤ 255) : Rd (w.alloc (.cells #[.int .u8 b] e)) (some ⟨w.heap.size, 0, none⟩) 1 1 [UInt8.ofNat b.toNat] := by
  have h := (Ob.lit w 0 e [UInt8.ofNat b.toNat] (Nat.zero_le _) (by simp [maxLen])).rd
  have e2 : (([UInt8.ofNat b.toNat]).map cb).toArray = #[.int .u8 b] := by
    have e3 : b.toNat % 256 = b.toNat := Nat.mod_eq_of_lt (by omega)
    simp [cb, e3]
    omega
  rw [e2] at h
  exact h

theorem Ob.one (w : World) (base : Nat) (b : Int) (e : TypeId) (h0 : 0 ≤ b) (h1 : b ≤ 255) (hb : base ≤ w.heap.size) : Ob (w.alloc (.cells #[.int .u8 b] e)) base e (some ⟨w.heap.size, 0, none⟩) 1 1 [UInt8.ofNat b.toNat] := by
  have h := (Ob.lit w base e [UInt8.ofNat b.toNat] hb (by simp [maxLen]))
  have e2 : (([UInt8.ofNat b.toNat]).map cb).toArray = #[.int .u8 b] := by
    have e3 : b.toNat % 256 = b.toNat := Nat.mod_eq_of_lt (by omega)
    simp [cb, e3]
    omega
  rw [e2] at h
  exact h

theorem laid_any (x : Int) (B many base n c : Nat) (A : Option Addr) (l : List UInt8) (w : World) (h0 : 0 ≤ x) (h1 : x ≤ 18446744073709551615) (hm : many ≤ 8) (hn : n ≤ 1000000)
    (hown : Ob w base 5 A n c l) (hbase : base ≤ w.heap.size) (hne : ab A ≠ some B) (hB : B < w.heap.size) (hc : w.cell? ⟨B, 0, none⟩ = some (.int .u64 x)) :
    Calls Tryd.prog 70 #[.slice A n c, .int .i64 many, .func (.func 81) #[] #[.pointer (some ⟨B, 0, none⟩)]] w (LaidPost w base A (n + many) (l ++ beB x.toNat many)) := by
  obtain ⟨x, rfl⟩ := Int.eq_ofNat_of_zero_le h0
  rw [Int.toNat_natCast]
  go_enter Tryd.func70, Tryd.ntmps70
  go_wp2
  go_loopw [0, 7] (fun v i wr => ∃ (k : Nat) (j : Int) (A' : Option Addr) (m c' : Nat) (l' : List UInt8), i = .int .i64 j ∧ j ≤ (k : Int) - 1 ∧ (k : Int) - 1 ≤ j ∧ k ≤ many ∧ v = .slice A' m c' ∧ m + k ≤ n + many ∧ n + many ≤ m + k ∧
      Ob wr base 5 A' m c' l' ∧ Hid (l' ++ beB x k = l ++ beB x many) ∧ (ab A' = ab A ∨ ∃ g, ab A' = some g ∧ w.heap.size ≤ g) ∧ Below base w wr ∧ wr.cell? ⟨B, 0, none⟩ = some (.int .u64 x))
    (fun _ i _ => (intOf i + 1).toNat)
  case atStart => exact ⟨many, _, A, n, c, l, rfl, by omega, by omega, by omega, rfl, by omega, by omega, hown, rfl, .inl rfl, Below.refl _ _, hc⟩
  case round =>
    obtain ⟨k, j, A', m, c', l', rfl, hj1, hj2, hk, rfl, hm1, hm2, hown', HL, hab, hbel, hc'⟩ := hrel
    have hsz := hbel.size
    have hne' : ab A' ≠ some B := by
      rcases hab with h | ⟨g, h, hg⟩
      · rw [h]; exact hne
      · rw [h]; intro e; injection e with e; omega
    by_cases h0k : 0 < k
    · have hj : 0 ≤ j := by omega
      go_wp2_with (first
        | (go_at_call 81; refine (of1_any x j B _ h0 h1 (by omega) (by omega) hc').mono ?_; rintro e w' ⟨rfl, rfl⟩)
        | (at_builtin; refine wpList_append_b _ rfl _ _ 52 rfl 5 Tryd.underlying52 info_u8 base A' m c' l' rfl (hown'.below ((Below.refl _ _).alloc (Nat.le_refl _) _)) _ 1 1 _ rfl (Rd.one _ _ _ (by omega) (by omega)) (by omega) (by simp; omega) ?_; intro A2 c2 w2 hown2 hgrow2 hab2))
      have hs2 := hgrow2.size
      have hbel2 : Below base w w2 := (hbel.alloc (by omega) _).grown hgrow2 (by simp; omega) (fun q hq => (hown'.ab q hq).1)
      rw [World.size_alloc] at hs2 hab2
      obtain ⟨k, rfl⟩ : ∃ q, k = q + 1 := ⟨k - 1, by omega⟩
      have hjk : j.toNat = k := by omega
      refine ⟨⟨k, _, A2, m + 1, c2, _, rfl, by omega, by omega, by omega, rfl, by omega, by omega, hown2, ?_, ?_, hbel2, ?_⟩, by simp [intOf]; omega⟩
      · have h := HL.out
        refine Eq.trans ?_ h
        rw [hjk]
        simp only [beB, List.append_assoc, List.singleton_append]
        rw [ofNat_shift]
      · rcases hab2 with h | h
        · rw [h]; exact hab
        · exact .inr ⟨_, h, by omega⟩
      · exact cell_of_below_ne (by rw [World.cell?_alloc_lt _ _ _ (by show B < wr.heap.size; omega)]; exact hc') hgrow2 hne'
    · go_wp2
      go_ret
      obtain rfl : k = 0 := by omega
      obtain rfl : m = n + many := by omega
      have h := HL.out
      simp only [beB, List.append_nil] at h
      exact ⟨A', c', rfl, by rw [← h]; exact hown', hbel, hab⟩
end Go.Proofs.YtdgmhegcoogokaaDoor
