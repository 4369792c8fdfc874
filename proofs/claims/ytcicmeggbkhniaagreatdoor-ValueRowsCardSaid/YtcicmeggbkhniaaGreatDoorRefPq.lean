/- The reference's Parts. -/
import Derived.Test.YtcicmeggbkhniaaGreatDoorRefPt
import Derived.Test.YtcicmeggbkhniaaGreatDoorStrS
import Derived.Test.YtcicmeggbkhniaaGreatDoorWorks1
namespace Go.Proofs.YtcicmeggbkhniaaGreatDoor
open Go.RowKit
set_option linter.unusedVariables false

theorem vcells_ones (xs : List Vl) : ∀ u ∈ vcells xs, u.oneCell' = true := by
  intro u hu
  obtain ⟨x, _, hx⟩ := List.mem_flatMap.1 hu
  simp [Vl.cells] at hx
  rcases hx with rfl | rfl | rfl | rfl <;> rfl
theorem info_VV : (Tryz.prog.info? 25).map (fun i => (i.zero, i.size, i.bytes)) = some (some (.agg #[.int .i64 0, .int .i64 0, .int .u64 0, .string ByteArray.empty]), 4, 40) := by kernel_rfl
theorem wpList_append_W {w : World} {ops : Array Oper} {rest : List Oper} {o : Oper} {a : Act} {Q : Exit → Act → World → Prop} (hgd : o.guard = none) (s x : Operand)
    (ho : o.op = .call { callee := .builtin .append, args := #[s, x], argTypes := #[27, 27] })
    (base : Nat) (A : Option Addr) (n c : Nat) (xs : List Vl) (hs : a.eval s = .slice A n c) (hown : Ov w base 25 4 A n c (vcells xs))
    (B : Option Addr) (m d : Nat) (ys : List Vl) (hx : a.eval x = .slice B m d) (hr : Rv w 4 B m d (vcells ys)) (hlen : n + m ≤ 100000) (hbase : base ≤ w.heap.size)
    (h : ∀ A' c' w', Ov w' base 25 4 A' (n + m) c' (vcells (xs ++ ys)) → w.grownBy w' (ab A) → (ab A' = ab A ∨ ab A' = some w.heap.size) → wpList Tryz.prog ops Q rest (a.put o.dst (.slice A' (n + m) c')) w') :
    wpList Tryz.prog ops Q (o :: rest) a w := by
  obtain ⟨i, hi1, hi2, hi3, hi4⟩ := info_parts info_VV
  refine wpList_append_v w hgd s x 27 ho 25 i _ 4 40 Tryz.underlying27 hi1 hi2 hi3 hi4 rfl (by decide) base A n c (vcells xs) hs hown B m d (vcells ys) hx hr (vcells_ones ys) (by unfold maxLen; omega) (by omega) hbase ?_
  intro A' c' w' h2 h3 h4
  refine h A' c' w' ?_ h3 h4
  rw [show vcells (xs ++ ys) = vcells xs ++ vcells ys from by simp [vcells]]
  exact h2

theorem occ_iff (l : List UInt8) (j : Nat) : Lib.occAt l sepL j = true ↔ l[j]? = some 44 ∧ l[j + 1]? = some 32 := by
  unfold Lib.occAt sepL
  rcases h : l.drop j with _ | ⟨a, _ | ⟨b, r⟩⟩
  · have h1 : l[j]? = none := by rw [List.getElem?_eq_none_iff]; exact List.drop_eq_nil_iff.1 h
    simp [h1]
  · have h1 : l[j]? = some a := by have := congrArg (·[0]?) h; simpa using this
    have h2 : l[j + 1]? = none := by have := congrArg (·[1]?) h; simpa using this
    simp [h2]
  · have h1 : l[j]? = some a := by have := congrArg (·[0]?) h; simpa using this
    have h2 : l[j + 1]? = some b := by have := congrArg (·[1]?) h; simpa using this
    simp only [List.isPrefixOf, h1, h2, Option.some.injEq, Bool.and_true, Bool.and_eq_true, beq_iff_eq]
    exact ⟨fun h => ⟨h.1.symm, h.2.symm⟩, fun h => ⟨h.1.symm, h.2.symm⟩⟩
theorem occ_false {l : List UInt8} {j : Nat} (h : ¬ (l[j]? = some 44 ∧ l[j + 1]? = some 32)) : Lib.occAt l sepL j = false := by
  cases e : Lib.occAt l sepL j with
  | false => rfl
  | true => exact absurd ((occ_iff l j).1 e) h

def PartsPost (w : World) (s : List UInt8) (e : Ending) (w' : World) : Prop :=
  ∃ A n c, e = .returned (.slice A n c) ∧ Ov w' w.heap.size 25 4 A n c (vcells (partsV s)) ∧ Below w.heap.size w w'

attribute [local go_sem] strL_toList
set_option maxRecDepth 100000 in
set_option maxHeartbeats 4000000 in
theorem rParts_any (s : List UInt8) (w : World) (hl : s.length ≤ 20000) : Calls Tryz.prog 25 #[.string (strL s)] w (PartsPost w s) := by
  have hsz : (strL s).size = s.length := strL_size s
  by_cases h0 : s = []
  · subst h0
    go_enter Tryz.func25, Tryz.ntmps25
    go_wp2
    go_loopw [3, 4] (fun o p wr => o = .slice none 0 0 ∧ p = .int .i64 0 ∧ wr = w) (fun _ _ _ => 0)
    case atStart => exact ⟨rfl, rfl, rfl⟩
    case round =>
      obtain ⟨rfl, rfl, rfl⟩ := hrel
      go_wp2
      go_ret
      exact ⟨none, 0, 0, rfl, Ov.nil _ _ _ _, Below.refl _ _⟩
  have hne : (s == []) = false := by simpa using h0
  have hPl := partsV_length s
  have hP0 : partsV s = goV (Lib.split s sepL) := by unfold partsV; rw [if_neg h0]
  go_enter Tryz.func25, Tryz.ntmps25
  go_wp2
  go_loopw [3, 4] (fun o p wr => ∃ (A : Option Addr) (c : Nat) (out : List Vl) (i : Nat), o = .slice A out.length c ∧ p = .int .i64 (i : Int) ∧ i ≤ s.length ∧ partsV s = out ++ goV (Lib.split (s.drop i) sepL) ∧ Ov wr w.heap.size 25 4 A out.length c (vcells out) ∧ Below w.heap.size w wr)
    (fun _ p wr => s.length - (intOf p).toNat)
  case atStart => exact ⟨none, 0, [], 0, rfl, rfl, by omega, by simpa using hP0, Ov.nil _ _ _ _, Below.refl _ _⟩
  case round =>
    obtain ⟨A, c, out, i, rfl, rfl, hi, hpv, hO, hbw⟩ := hrel
    have hol : out.length ≤ 30000 := by have := congrArg List.length hpv; simp at this; omega
    have hile : decide ((i : Int) ≤ (s.length : Int)) = true := by simp; omega
    clear hP0 hPl h0
    go_wp2
    go_loop [5] (fun p => ∃ e : Nat, p = .int .i64 (e : Int) ∧ i ≤ e ∧ e ≤ s.length ∧ Lib.NoOcc (s.drop i) sepL (e - i)) (fun p => s.length - (intOf p).toNat)
    case atStart => exact ⟨i, rfl, by omega, hi, by rw [Nat.sub_self]; exact Lib.NoOcc.zero _ _⟩
    case round =>
      obtain ⟨e, rfl, hie, hes, hno⟩ := hrel
      by_cases hend : e = s.length
      · subst hend
        have hsp : Lib.split (s.drop i) sepL = [s.drop i] := split_miss (Lib.index_past (by decide) hno (by simp [sepL]))
        rw [hsp] at hpv
        have hsl := sl_both s i s.length hi (Nat.le_refl _)
        rw [List.take_of_length_le (by simp)] at hsl
        have hp := fun W => rParse_any (s.drop i) W (by simp; omega)
        unfold ParsePost at hp
        have hpo : goV [s.drop i] = if (readT (s.drop i)).2 = 0 then [(readT (s.drop i)).1] else [] := rfl
        rw [hpo] at hpv
        generalize (readT (s.drop i)).2 = no at *
        generalize (readT (s.drop i)).1 = x at *
        generalize s.drop i = t at *
        obtain ⟨xk, xi, xu, xs⟩ := x
        simp only [Vl.val, valV] at hp
        have dlt : decide ((s.length : Int) < (s.length : Int)) = false := by simp
        have deq : ((s.length : Int) == (s.length : Int)) = true := by simp
        replace hp := Lib.hid hp
        clear hno hsp hpo
        by_cases hz : no = 0
        · subst hz
          rw [if_pos rfl] at hpv
          have hN := hpv
          replace hN := Lib.hid hN
          clear hpv
          go_wp2_with fail
          refine (hp.out _).mono ?_
          rintro e W1 ⟨rfl, g1⟩
          have hbA : Below W1.heap.size W1 (W1.alloc (.cells #[.int .i64 xk, .int .i64 xi, .int .u64 xu, .string (strL xs)] 25)) := (Below.refl _ _).alloc (Nat.le_refl _) _
          have hO1 := hO.below (gr g1 hbA)
          have hb2 := gr hbw (gr g1 hbA)
          have hv1 := VBox.new W1 xk xi xu (strL xs)
          have hs1 := hb2.size
          clear hp hO
          have hlit : Rv ((W1.alloc (.cells #[.int .i64 xk, .int .i64 xi, .int .u64 xu, .string (strL xs)] 25)).alloc (.cells #[.int .i64 xk, .int .i64 xi, .int .u64 xu, .string (strL xs)] 25)) 4 (some ⟨W1.heap.size + 1, 0, none⟩) 1 1 (vcells [⟨xk, xi, xu, xs⟩]) := by
            have h := lit_rv (W1.alloc (.cells #[.int .i64 xk, .int .i64 xi, .int .u64 xu, .string (strL xs)] 25)) 25 [⟨xk, xi, xu, xs⟩] (show 1 ≤ maxLen by decide)
            rw [World.size_alloc] at h
            exact h
          have hbB : Below (W1.alloc (.cells #[.int .i64 xk, .int .i64 xi, .int .u64 xu, .string (strL xs)] 25)).heap.size (W1.alloc (.cells #[.int .i64 xk, .int .i64 xi, .int .u64 xu, .string (strL xs)] 25)) ((W1.alloc (.cells #[.int .i64 xk, .int .i64 xi, .int .u64 xu, .string (strL xs)] 25)).alloc (.cells #[.int .i64 xk, .int .i64 xi, .int .u64 xu, .string (strL xs)] 25)) := (Below.refl _ _).alloc (Nat.le_refl _) _
          have hO2 := hO1.below hbB
          have hb3 := gr hb2 hbB
          go_wp2_with (at_builtin; refine wpList_append_W rfl _ _ rfl w.heap.size A out.length c out rfl hO2 _ 1 1 [⟨xk, xi, xu, xs⟩] rfl hlit (by omega) hb3.size ?_; intro A' c' w5 hO5 hg5 hab5)
          have hb5 : Below w.heap.size w w5 := hb3.grown hg5 hb3.size (fun q e => (Ov.ab hO2 q e).1)
          go_wp2
          go_ret
          exact ⟨A', out.length + 1, c', rfl, by rw [hN.out]; exact hO5, hb5⟩
        · have hd : ((no : Int) != 0) = true := by simp; omega
          rw [if_neg hz, List.append_nil] at hpv
          have hN := hpv
          replace hN := Lib.hid hN
          clear hpv hz
          go_wp2_with fail
          refine (hp.out _).mono ?_
          rintro e W1 ⟨rfl, g1⟩
          have hbA : Below W1.heap.size W1 (W1.alloc (.cells #[.int .i64 xk, .int .i64 xi, .int .u64 xu, .string (strL xs)] 25)) := (Below.refl _ _).alloc (Nat.le_refl _) _
          have hO1 := hO.below (gr g1 hbA)
          have hb2 := gr hbw (gr g1 hbA)
          have hv1 := VBox.new W1 xk xi xu (strL xs)
          have hs1 := hb2.size
          clear hp hO
          go_wp2
          go_ret
          exact ⟨A, out.length, c, rfl, by rw [hN.out]; exact hO1, hb2⟩
      · have hlt : e < s.length := by omega
        obtain ⟨b, eb⟩ : ∃ b, s[e]'hlt = b := ⟨_, rfl⟩
        have hget : ∀ h, (strL s)[e]'h = b := fun h => eb
        have hb? : s[e]? = some b := by rw [List.getElem?_eq_getElem hlt, eb]
        have hoc : Lib.occAt (s.drop i) sepL (e - i) = true ↔ b = 44 ∧ s[e + 1]? = some 32 := by
          rw [occ_iff, List.getElem?_drop, List.getElem?_drop, show i + (e - i) = e from by omega, show i + (e - i + 1) = e + 1 from by omega, hb?]
          simp
        have hsucc : Lib.occAt (s.drop i) sepL (e - i) = false → Lib.NoOcc (s.drop i) sepL (e + 1 - i) := fun h => by
          rw [show e + 1 - i = e - i + 1 from by omega]
          exact hno.succ h
        have hfalse : ¬ (b = 44 ∧ s[e + 1]? = some 32) → Lib.NoOcc (s.drop i) sepL (e + 1 - i) := fun h => hsucc (by
          cases h2 : Lib.occAt (s.drop i) sepL (e - i) with
          | false => rfl
          | true => exact absurd (hoc.1 h2) h)
        have dlt : decide ((e : Int) < (s.length : Int)) = true := by simp; omega
        clear eb hb? hsucc
        by_cases hb : b = 44
        · subst hb
          by_cases h1 : e + 1 < s.length
          · obtain ⟨b2, eb2⟩ : ∃ b2, s[e + 1]'h1 = b2 := ⟨_, rfl⟩
            have hget2 : ∀ h, (strL s)[e + 1]'h = b2 := fun h => eb2
            have hb2? : s[e + 1]? = some b2 := by rw [List.getElem?_eq_getElem h1, eb2]
            have dlt2 : decide ((e : Int) + 1 < (s.length : Int)) = true := by simp; omega
            clear eb2
            by_cases hb2 : b2 = 32
            · subst hb2
              have hocc := hoc.2 ⟨rfl, hb2?⟩
              have hix : Lib.index (s.drop i) sepL = ((e - i : Nat) : Int) := Lib.index_hit hno (by simp; omega) hocc
              have hsp : Lib.split (s.drop i) sepL = (s.drop i).take (e - i) :: Lib.split (s.drop (e + 2)) sepL := by
                rw [split_hit hix, List.drop_drop, show i + (e - i + 2) = e + 2 from by omega]
              rw [hsp] at hpv
              have hsl := sl_both s i e hie (by omega)
              have hp := fun W => rParse_any ((s.drop i).take (e - i)) W (by simp; omega)
              unfold ParsePost at hp
              have hpo : ∀ R, goV ((s.drop i).take (e - i) :: R) = if (readT ((s.drop i).take (e - i))).2 = 0 then (readT ((s.drop i).take (e - i))).1 :: goV R else [] := fun R => rfl
              rw [hpo] at hpv
              generalize (readT ((s.drop i).take (e - i))).2 = no at *
              generalize (readT ((s.drop i).take (e - i))).1 = x at *
              generalize (s.drop i).take (e - i) = t at *
              obtain ⟨xk, xi, xu, xs⟩ := x
              simp only [Vl.val, valV] at hp
              have deq : ((e : Int) == (s.length : Int)) = false := by simp; omega
              replace hp := Lib.hid hp
              clear hno hsp hpo hix hocc hoc hfalse hb2?
              by_cases hz : no = 0
              · subst hz
                rw [if_pos rfl] at hpv
                have hN := hpv
                replace hN := Lib.hid hN
                clear hpv
                go_wp2_with fail
                refine (hp.out _).mono ?_
                rintro e W1 ⟨rfl, g1⟩
                have hbA : Below W1.heap.size W1 (W1.alloc (.cells #[.int .i64 xk, .int .i64 xi, .int .u64 xu, .string (strL xs)] 25)) := (Below.refl _ _).alloc (Nat.le_refl _) _
                have hO1 := hO.below (gr g1 hbA)
                have hb2 := gr hbw (gr g1 hbA)
                have hv1 := VBox.new W1 xk xi xu (strL xs)
                have hs1 := hb2.size
                clear hp hO
                have hlit : Rv ((W1.alloc (.cells #[.int .i64 xk, .int .i64 xi, .int .u64 xu, .string (strL xs)] 25)).alloc (.cells #[.int .i64 xk, .int .i64 xi, .int .u64 xu, .string (strL xs)] 25)) 4 (some ⟨W1.heap.size + 1, 0, none⟩) 1 1 (vcells [⟨xk, xi, xu, xs⟩]) := by
                  have h := lit_rv (W1.alloc (.cells #[.int .i64 xk, .int .i64 xi, .int .u64 xu, .string (strL xs)] 25)) 25 [⟨xk, xi, xu, xs⟩] (show 1 ≤ maxLen by decide)
                  rw [World.size_alloc] at h
                  exact h
                have hbB : Below (W1.alloc (.cells #[.int .i64 xk, .int .i64 xi, .int .u64 xu, .string (strL xs)] 25)).heap.size (W1.alloc (.cells #[.int .i64 xk, .int .i64 xi, .int .u64 xu, .string (strL xs)] 25)) ((W1.alloc (.cells #[.int .i64 xk, .int .i64 xi, .int .u64 xu, .string (strL xs)] 25)).alloc (.cells #[.int .i64 xk, .int .i64 xi, .int .u64 xu, .string (strL xs)] 25)) := (Below.refl _ _).alloc (Nat.le_refl _) _
                have hO2 := hO1.below hbB
                have hb3 := gr hb2 hbB
                go_wp2_with (at_builtin; refine wpList_append_W rfl _ _ rfl w.heap.size A out.length c out rfl hO2 _ 1 1 [⟨xk, xi, xu, xs⟩] rfl hlit (by omega) hb3.size ?_; intro A' c' w5 hO5 hg5 hab5)
                have hb5 : Below w.heap.size w w5 := hb3.grown hg5 hb3.size (fun q e => (Ov.ab hO2 q e).1)
                go_wp2
                exact ⟨⟨A', c', out ++ [⟨xk, xi, xu, xs⟩], e + 2, by simp, by simp, by omega, by rw [hN.out]; simp, by simpa using hO5, hb5⟩, by simp [intOf]; omega⟩
              · have hd : ((no : Int) != 0) = true := by simp; omega
                rw [if_neg hz, List.append_nil] at hpv
                have hN := hpv
                replace hN := Lib.hid hN
                clear hpv hz
                go_wp2_with fail
                refine (hp.out _).mono ?_
                rintro e W1 ⟨rfl, g1⟩
                have hbA : Below W1.heap.size W1 (W1.alloc (.cells #[.int .i64 xk, .int .i64 xi, .int .u64 xu, .string (strL xs)] 25)) := (Below.refl _ _).alloc (Nat.le_refl _) _
                have hO1 := hO.below (gr g1 hbA)
                have hb2 := gr hbw (gr g1 hbA)
                have hv1 := VBox.new W1 xk xi xu (strL xs)
                have hs1 := hb2.size
                clear hp hO
                go_wp2
                go_ret
                exact ⟨A, out.length, c, rfl, by rw [hN.out]; exact hO1, hb2⟩
            · have hq := hfalse (by rw [hb2?]; rintro ⟨-, h⟩; injection h with h; exact hb2 h)
              have hne2 : ((b2.toNat : Int) == 32) = false := toNat_ne (d := 32) hb2
              replace hq := Lib.hid hq
              clear hno hoc hfalse hb2? hb2 hpv
              go_wp2
              go_round
              case rel => exact ⟨e + 1, by go_num, by omega, by omega, hq.out⟩
              case measure => simp [intOf]; omega
          · have hq := hfalse (by rintro ⟨-, h⟩; rw [List.getElem?_eq_none (by omega)] at h; cases h)
            have dlt2 : decide ((e : Int) + 1 < (s.length : Int)) = false := by simp; omega
            replace hq := Lib.hid hq
            clear hno hoc hfalse hpv
            go_wp2
            go_round
            case rel => exact ⟨e + 1, by go_num, by omega, by omega, hq.out⟩
            case measure => simp [intOf]; omega
        · have hq := hfalse (by rintro ⟨h, -⟩; exact hb h)
          have hne1 : ((b.toNat : Int) == 44) = false := toNat_ne (d := 44) hb
          replace hq := Lib.hid hq
          clear hno hoc hfalse hb hpv
          go_wp2
          go_round
          case rel => exact ⟨e + 1, by go_num, by omega, by omega, hq.out⟩
          case measure => simp [intOf]; omega
end Go.Proofs.YtcicmeggbkhniaaGreatDoor
