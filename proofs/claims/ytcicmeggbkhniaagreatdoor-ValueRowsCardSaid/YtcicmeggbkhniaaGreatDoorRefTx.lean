/- The reference's Text. -/
import Derived.Test.YtcicmeggbkhniaaGreatDoorTextB
import Derived.Test.YtcicmeggbkhniaaGreatDoorRefC
import Derived.Test.YtcicmeggbkhniaaGreatDoorRefPa
import Derived.Test.YtcicmeggbkhniaaGreatDoorVBox
namespace Go.Proofs.YtcicmeggbkhniaaGreatDoor
open Go.RowKit
set_option linter.unusedVariables false

/-- What the reference's Text tells of a value that may be. -/
def RText (w : World) (x : Vl) (e : Ending) (w' : World) : Prop := e = .returned (.tuple #[.string (strL (textV x)), .int .i64 0]) ∧ Below w.heap.size w w'
set_option maxRecDepth 100000 in
theorem rText_null (w : World) : Calls Tryz.prog 11 #[.agg #[.int .i64 0, .int .i64 0, .int .u64 0, .string (strL [])]] w (RText w ⟨0, 0, 0, []⟩) := by
  have hchk := fun W => refCheck_any 0 0 0 [] W
  unfold valV at hchk
  rw [chk_null] at hchk
  have hV0 := VBox.new w 0 0 0 (strL [])
  have hb0 : Below w.heap.size w (w.alloc (.cells #[.int .i64 0, .int .i64 0, .int .u64 0, .string (strL [])] 25)) := (Below.refl _ w).alloc (Nat.le_refl _) _
  replace hchk := Lib.hid hchk
  go_enter Tryz.func11, Tryz.ntmps11
  go_wp2_with fail
  refine (hchk.out _).mono ?_
  rintro e w1 ⟨rfl, hb⟩
  have hV := hV0.below hb (by simp)
  have hb1 := gr hb0 hb
  have cv := hV.cells
  clear hchk hb hV0 hb0
  go_wp2
  go_ret2
  exact ⟨rfl, hb1⟩
set_option maxRecDepth 100000 in
theorem rText_f (w : World) : Calls Tryz.prog 11 #[.agg #[.int .i64 3, .int .i64 0, .int .u64 0, .string (strL [])]] w (RText w ⟨3, 0, 0, []⟩) := by
  have hchk := fun W => refCheck_any 3 0 0 [] W
  unfold valV at hchk
  rw [chk_b0] at hchk
  have hV0 := VBox.new w 3 0 0 (strL [])
  have hb0 : Below w.heap.size w (w.alloc (.cells #[.int .i64 3, .int .i64 0, .int .u64 0, .string (strL [])] 25)) := (Below.refl _ w).alloc (Nat.le_refl _) _
  replace hchk := Lib.hid hchk
  go_enter Tryz.func11, Tryz.ntmps11
  go_wp2_with fail
  refine (hchk.out _).mono ?_
  rintro e w1 ⟨rfl, hb⟩
  have hV := hV0.below hb (by simp)
  have hb1 := gr hb0 hb
  have cv := hV.cells
  clear hchk hb hV0 hb0
  go_wp2
  go_ret2
  exact ⟨rfl, hb1⟩
set_option maxRecDepth 100000 in
theorem rText_t (w : World) : Calls Tryz.prog 11 #[.agg #[.int .i64 3, .int .i64 1, .int .u64 0, .string (strL [])]] w (RText w ⟨3, 1, 0, []⟩) := by
  have hchk := fun W => refCheck_any 3 1 0 [] W
  unfold valV at hchk
  rw [chk_b1] at hchk
  have hV0 := VBox.new w 3 1 0 (strL [])
  have hb0 : Below w.heap.size w (w.alloc (.cells #[.int .i64 3, .int .i64 1, .int .u64 0, .string (strL [])] 25)) := (Below.refl _ w).alloc (Nat.le_refl _) _
  replace hchk := Lib.hid hchk
  go_enter Tryz.func11, Tryz.ntmps11
  go_wp2_with fail
  refine (hchk.out _).mono ?_
  rintro e w1 ⟨rfl, hb⟩
  have hV := hV0.below hb (by simp)
  have hb1 := gr hb0 hb
  have cv := hV.cells
  clear hchk hb hV0 hb0
  go_wp2
  go_ret2
  exact ⟨rfl, hb1⟩
set_option maxRecDepth 100000 in
theorem rText_int (i : Int) (w : World) (hE : Env w) (h0 : -9223372036854775808 ≤ i) (h1 : i ≤ 9223372036854775807) : Calls Tryz.prog 11 #[.agg #[.int .i64 1, .int .i64 i, .int .u64 0, .string (strL [])]] w (RText w ⟨1, i, 0, []⟩) := by
  have hchk := fun W => refCheck_any 1 i 0 [] W
  unfold valV at hchk
  rw [chk_int] at hchk
  have hV0 := VBox.new w 1 i 0 (strL [])
  have hb0 : Below w.heap.size w (w.alloc (.cells #[.int .i64 1, .int .i64 i, .int .u64 0, .string (strL [])] 25)) := (Below.refl _ w).alloc (Nat.le_refl _) _
  replace hchk := Lib.hid hchk
  go_enter Tryz.func11, Tryz.ntmps11
  go_wp2_with fail
  refine (hchk.out _).mono ?_
  rintro e w1 ⟨rfl, hb⟩
  have hV := hV0.below hb (by simp)
  have hb1 := gr hb0 hb
  have cv := hV.cells
  clear hchk hb hV0 hb0
  have hc := FmtI_any i _ (hE.below hb1) h0 h1
  replace hc := Lib.hid hc
  clear h0 h1
  go_wp2_with fail
  refine hc.out.mono ?_
  rintro e w2 ⟨rfl, hb2⟩
  have hb3 := gr hb1 hb2
  clear hc
  go_wp2
  go_ret2
  exact ⟨rfl, hb3⟩
set_option maxRecDepth 100000 in
theorem rText_uint (u : Nat) (w : World) (hE : Env w) (h1 : u < 18446744073709551616) : Calls Tryz.prog 11 #[.agg #[.int .i64 2, .int .i64 0, .int .u64 (u : Int), .string (strL [])]] w (RText w ⟨2, 0, (u : Int), []⟩) := by
  have hlen : (Lib.decDigits u).length ≤ 25 := by
    rw [Lib.decDigits_length]
    by_cases h0 : u = 0
    · subst h0
      rw [Lib.nDigits_small (by omega)]
      omega
    · have := Lib.numDigits_eq u (by omega) h1
      split at this <;> omega
  have hsz : ¬ 9223372036854775807 < (strL (Lib.decDigits u)).size + 1 := by rw [strL_size]; omega
  have hchk := fun W => refCheck_any 2 0 (u : Int) [] W
  unfold valV at hchk
  rw [chk_uint] at hchk
  have hV0 := VBox.new w 2 0 (u : Int) (strL [])
  have hb0 : Below w.heap.size w (w.alloc (.cells #[.int .i64 2, .int .i64 0, .int .u64 (u : Int), .string (strL [])] 25)) := (Below.refl _ w).alloc (Nat.le_refl _) _
  replace hchk := Lib.hid hchk
  go_enter Tryz.func11, Tryz.ntmps11
  go_wp2_with fail
  refine (hchk.out _).mono ?_
  rintro e w1 ⟨rfl, hb⟩
  have hV := hV0.below hb (by simp)
  have hb1 := gr hb0 hb
  have cv := hV.cells
  clear hchk hb hV0 hb0
  have hc := FmtU_any u _ (hE.below hb1) h1
  replace hc := Lib.hid hc
  clear h1 hlen
  go_wp2_with fail
  refine hc.out.mono ?_
  rintro e w2 ⟨rfl, hb2⟩
  have hb3 := gr hb1 hb2
  clear hc
  go_wp2
  go_ret2
  refine ⟨?_, hb3⟩
  have e : textV ⟨2, 0, (u : Int), []⟩ = Lib.decDigits u ++ [117] := by simp [textV]
  rw [e, ← append_strs]
  rfl
set_option maxRecDepth 100000 in
theorem rText_no (k i u : Int) (s : List UInt8) (w : World) (h : chkV k i u (strL s) ≠ 0) : Calls Tryz.prog 11 #[.agg #[.int .i64 k, .int .i64 i, .int .u64 u, .string (strL s)]] w fun e w' => e = .returned (.tuple #[.string (strL []), .int .i64 (chkV k i u (strL s) : Int)]) ∧ Below w.heap.size w w' := by
  have hb0 : Below w.heap.size w (w.alloc (.cells #[.int .i64 k, .int .i64 i, .int .u64 u, .string (strL s)] 25)) := (Below.refl _ w).alloc (Nat.le_refl _) _
  have hchk := fun W => refCheck_any k i u s W
  unfold valV at hchk
  generalize chkV k i u (strL s) = n at *
  have hd : ((n : Int) != 0) = true := by simp; omega
  replace hchk := Lib.hid hchk
  clear h
  go_enter Tryz.func11, Tryz.ntmps11
  go_wp2_with fail
  refine (hchk.out _).mono ?_
  rintro e w0 ⟨rfl, hbc⟩
  have hfin := gr hb0 hbc
  clear hchk hb0 hbc
  go_wp2
  go_ret2
  exact ⟨rfl, hfin⟩

theorem set_two {α : Type} (A Z : List α) (x y a b : α) (n : Nat) (h : A.length = n) : ((A ++ x :: y :: Z).set n a).set (n + 1) b = A ++ a :: b :: Z := by
  subst h
  induction A with
  | nil => rfl
  | cons c r ih => simp
theorem hexL_len (s : List UInt8) : (hexL s).length = 2 * s.length := hexL_length s
attribute [local go_sem] strL_size
set_option maxRecDepth 100000 in
set_option maxHeartbeats 4000000 in
theorem rText_bytes (s : List UInt8) (w : World) (hs : s.length ≤ 200) : Calls Tryz.prog 11 #[.agg #[.int .i64 4, .int .i64 0, .int .u64 0, .string (strL s)]] w (RText w ⟨4, 0, 0, s⟩) := by
  have hm1 : IntKind.i64.wrap (2 * (s.length : Int)) = 2 * (s.length : Int) := by rw [IntKind.wrap_i64]; omega
  have hchk := fun W => refCheck_any 4 0 0 s W
  unfold valV at hchk
  rw [(chk_bytes hs)] at hchk
  have hV0 := VBox.new w 4 0 0 (strL s)
  have hb0 : Below w.heap.size w (w.alloc (.cells #[.int .i64 4, .int .i64 0, .int .u64 0, .string (strL s)] 25)) := (Below.refl _ w).alloc (Nat.le_refl _) _
  replace hchk := Lib.hid hchk
  go_enter Tryz.func11, Tryz.ntmps11
  go_wp2_with fail
  refine (hchk.out _).mono ?_
  rintro e w1 ⟨rfl, hb⟩
  have hV := hV0.below hb (by simp)
  have hb1 := gr hb0 hb
  have cv := hV.cells
  clear hchk hb hV0 hb0
  have hlt0 := hV.lt
  go_wp2_with (at_make; refine wpList_make_b _ rfl _ _ 61 rfl 5 Tryz.underlying61 info_p8 w1.heap.size .i64 .i64 _ _ (2 * s.length) rfl rfl (by omega) (by omega) (by omega) (Nat.le_refl _) ?_; intro w2 hown2 hgrow2)
  have hA2 := hown2.arr
  have hbx : Below w1.heap.size w1 w2 := Below.of_grown_none hgrow2
  have hb2 := gr hb1 hbx
  have hV2 := hV.below hbx hlt0
  have hg2 := hA2.lt
  have hne : w.heap.size ≠ w1.heap.size := Nat.ne_of_lt hlt0
  generalize w1.heap.size = g at *
  clear hown2 hgrow2 hbx hV cv hb1
  go_loopw [6] (fun p wr => ∃ i : Nat, p = .int .i64 (i : Int) ∧ i ≤ s.length ∧ Arr wr g 5 (hexL (s.take i) ++ List.replicate (2 * (s.length - i)) 0) ∧ VBox wr w.heap.size 4 0 0 (strL s) ∧ Below w.heap.size w wr)
    (fun p wr => s.length - (intOf p).toNat)
  case atStart => exact ⟨0, rfl, by omega, by simpa [hexL] using hA2, hV2, hb2⟩
  case round =>
    obtain ⟨i, rfl, hi, hO, hVr, hbw⟩ := hrel
    have cv := hVr.cells
    by_cases hlt : i < s.length
    · obtain ⟨x, ex⟩ : ∃ x, s[i]'hlt = x := ⟨_, rfl⟩
      have hget : ∀ h, (strL s)[i]'h = x := fun h => ex
      have htk := hexL_take s i hlt
      rw [ex] at htk
      clear ex
      have hx256 := x.toNat_lt
      obtain ⟨q, hq⟩ : ∃ q, x.toNat / 16 = q := ⟨_, rfl⟩
      obtain ⟨r, hr⟩ : ∃ r, x.toNat % 16 = r := ⟨_, rfl⟩
      rw [hq, hr] at htk
      have q1 : (x.toNat : Int) / 16 = (q : Int) := by omega
      have r1 : (x.toNat : Int) % 16 = (r : Int) := by omega
      have q2 : q < 16 := by omega
      have r2 : r < 16 := by omega
      have hdg : ∀ (k : Nat), k < 16 → ∀ h, ({ data := #[48, 49, 50, 51, 52, 53, 54, 55, 56, 57, 97, 98, 99, 100, 101, 102] } : ByteArray)[k]'h = hexDig k := fun k hk h => by
        have hall : ∀ i : Fin 16, ([48, 49, 50, 51, 52, 53, 54, 55, 56, 57, 97, 98, 99, 100, 101, 102] : List UInt8)[i.val] = hexDig i.val := by decide
        exact hall ⟨k, hk⟩
      have g1 := hdg q q2
      have g2 := hdg r r2
      clear hq hr
      have hlen : (hexL (s.take i)).length = 2 * i := by rw [hexL_length, List.length_take]; omega
      obtain ⟨m, hm⟩ : ∃ m, 2 * (s.length - i) = m + 1 + 1 := ⟨2 * (s.length - i) - 2, by omega⟩
      rw [hm, List.replicate_succ, List.replicate_succ] at hO
      have hm2 : 2 * (s.length - (i + 1)) = m := by omega
      have hst := fun a b => set_two (hexL (s.take i)) (List.replicate m (0 : UInt8)) 0 0 a b (2 * i) hlen
      have c0 := hO.cell (j := 2 * i) (by simp; omega)
      have c1 := hO.cell (j := 2 * i + 1) (by simp; omega)
      have f0 := hO.frozen (2 * i)
      have f1 := hO.frozen (2 * i + 1)
      have v1 : IntKind.i64.wrap (2 * (i : Int)) = 2 * (i : Int) := by rw [IntKind.wrap_i64]; omega
      have v2 : IntKind.i64.wrap (2 * (i : Int) + 1) = 2 * (i : Int) + 1 := by rw [IntKind.wrap_i64]; omega
      have t1 : (2 * (i : Int)).toNat = 2 * i := by omega
      have t2 : (2 * (i : Int) + 1).toNat = 2 * i + 1 := by omega
      have l1 : 2 * (i : Int) < 2 * (s.length : Int) := by omega
      have l2 : 2 * (i : Int) + 1 < 2 * (s.length : Int) := by omega
      have n1 : (0 : Int) ≤ 2 * (i : Int) := by omega
      have n2 : (0 : Int) ≤ 2 * (i : Int) + 1 := by omega
      have hlt2 : decide ((i : Int) < (s.length : Int)) = true := by simp; omega
      have hbs := hbw.size
      replace hO := Lib.hid hO
      replace hst := Lib.hid hst
      replace htk := Lib.hid htk
      replace hVr := Lib.hid hVr
      clear hdg hx256
      generalize hexDig q = dq at *
      generalize hexDig r = dr at *
      go_wp2
      go_region
      go_wp2
      refine ⟨⟨i + 1, by simp, by omega, ?_, ?_, ?_⟩, by simp [intOf]; omega⟩
      · have h := (hO.out.set (2 * i) (v := .int .u8 (dq.toNat : Int)) (b := dq) rfl).set (2 * i + 1) (v := .int .u8 (dr.toNat : Int)) (b := dr) rfl
        rw [hst.out] at h
        rw [htk.out, hm2, List.append_assoc]
        exact h
      · exact (hVr.out.other hne _).other hne _
      · exact ((hbw.setCell (p := ⟨g, 2 * i, none⟩) (Nat.le_of_lt hlt0) _).setCell (p := ⟨g, 2 * i + 1, none⟩) (Nat.le_of_lt hlt0) _).drew
    · obtain rfl : i = s.length := by omega
      have hlt2 : decide ((s.length : Int) < (s.length : Int)) = false := by simp
      rw [List.take_length, Nat.sub_self, Nat.mul_zero, List.replicate_zero, List.append_nil] at hO
      have hrd := hO.rd (2 * s.length) (by rw [hexL_length]; omega) (by unfold maxLen; omega)
      rw [hexL_length] at hrd
      have hcv := run_conv_b (P := Tryz.prog) wr 61 9 5 Tryz.underlying61 Tryz.underlying5 Tryz.underlying9 hrd
      have hzl : (hexL s).length ≤ 1000 := by rw [hexL_length]; omega
      clear hO hrd hVr hV2 hA2
      have hN : textV ⟨4, 0, 0, s⟩ = ([120, 39] ++ hexL s) ++ [39] := rfl
      generalize hexL s = z at *
      have z1 : ¬ 9223372036854775807 < 2 + z.length := by omega
      have z2 : ¬ 9223372036854775807 < 2 + z.length + 1 := by omega
      have z3 : ({ data := #[120, 39] } : ByteArray).size = 2 := rfl
      replace hN := Lib.hid hN
      clear hzl
      go_wp2
      go_ret2
      exact ⟨by rw [hN.out, ← append_strs, ← append_strs]; rfl, hbw⟩
/-- What the reference's Text tells. -/
theorem rText_any (x : Vl) (w : World) (hE : Env w) (hw : x.Wf) : Calls Tryz.prog 11 #[x.val] w (TextP w x) := by
  unfold TextP
  by_cases h : x.chk = 0
  · rw [if_pos h, h]
    rcases chk_ways h with rfl | ⟨i, rfl⟩ | ⟨u, rfl⟩ | rfl | rfl | ⟨s, rfl, hs⟩
    · exact rText_null w
    · exact rText_int i w hE hw.i0 hw.i1
    · have hu0 := hw.u0
      have hu1 := hw.u1
      simp only at hu0 hu1
      obtain ⟨n, rfl⟩ : ∃ n : Nat, u = n := ⟨u.toNat, by omega⟩
      exact rText_uint n w hE (by omega)
    · exact rText_f w
    · exact rText_t w
    · exact rText_bytes s w hs
  · rw [if_neg h]
    exact rText_no x.k x.i x.u x.s w h
end Go.Proofs.YtcicmeggbkhniaaGreatDoor
