/- key.read: bytes, group by group. -/
import Derived.Test.YtdgmhegcoogokaaDoorKeyE
import Derived.Test.YtdgmhegcoogokaaDoorKeyD
import Derived.Laws.Cover3
namespace Go.Proofs.YtdgmhegcoogokaaDoor
open Go.RowKit
set_option linter.unusedVariables false

/-- The bytes that are read, and how many bytes were read for them. -/
def readG (out t : List UInt8) : Option (List UInt8 × Nat) :=
  if h : t.length < 9 then none else
    if 9 < (t.getD 8 0).toNat then none else
      if 200 < (out ++ t.take (min (t.getD 8 0).toNat 8)).length then none else
        if (t.getD 8 0).toNat = 9 then (readG (out ++ t.take (min (t.getD 8 0).toNat 8)) (t.drop 9)).map fun r => (r.1, r.2 + 9)
        else if t.take (t.getD 8 0).toNat ++ List.replicate (8 - (t.getD 8 0).toNat) 0 = t.take 8 ∧ (0 < (t.getD 8 0).toNat ∨ out = []) then some (out ++ t.take (min (t.getD 8 0).toNat 8), 9) else none
termination_by t.length
decreasing_by simp; omega

theorem forIn_eq {P : Program} (g : Nat → Sem (ForInStep (Option Bool × Unit))) (p : Nat → Bool) (w : World) : ∀ (is : List Nat), (∀ i ∈ is, (g i).run P w = .ok (if p i then .yield (none, ()) else .done (some false, ())) w) →
    (forIn is ((none, ()) : Option Bool × Unit) (fun i _ => g i)).run P w = .ok (if is.all p then (none, ()) else (some false, ())) w
  | [], _ => by simp
  | i :: is, h => by
    have h1 := h i (by simp)
    have h2 := forIn_eq g p w is (fun j hj => h j (by simp [hj]))
    rw [List.forIn_cons, Sem.run_bind, h1]
    cases hp : p i
    · simp [hp]
    · simp [hp, h2]

def a9 (a0 a1 a2 a3 a4 a5 a6 a7 a8 : UInt8) : Value := .agg #[.int .u8 a0.toNat, .int .u8 a1.toNat, .int .u8 a2.toNat, .int .u8 a3.toNat, .int .u8 a4.toNat, .int .u8 a5.toNat, .int .u8 a6.toNat, .int .u8 a7.toNat, .int .u8 a8.toNat]
set_option maxRecDepth 100000 in
set_option maxHeartbeats 2000000 in
theorem eql_A (a0 a1 a2 a3 a4 a5 a6 a7 a8 b0 b1 b2 b3 b4 b5 b6 b7 b8 : UInt8) (w : World) :
    (binOp .eql 115 (a9 a0 a1 a2 a3 a4 a5 a6 a7 a8) (a9 b0 b1 b2 b3 b4 b5 b6 b7 b8)).run Tryd.prog w = .ok (.bool (decide ([a0, a1, a2, a3, a4, a5, a6, a7, a8] = [b0, b1, b2, b3, b4, b5, b6, b7, b8]))) w := by
  have : Op.maxDepth = 9998 + 1 + 1 := rfl
  unfold a9 binOp
  simp [go_sem]
  rw [Op.equal, this, Op.equalIn]
  simp [go_sem, Sem.run_bind, run_underlying Tryd.underlying115]
  have hne : ∀ (x y : UInt8), ((x.toNat : Int) == (y.toNat : Int)) = decide (x = y) := fun x y => by
    by_cases h : x = y
    · simp [h]
    · have : ¬ x.toNat = y.toNat := fun e => h (UInt8.toNat_inj.1 e)
      simp [h]
      omega
  rw [forIn_eq _ (fun i => [a0, a1, a2, a3, a4, a5, a6, a7, a8][i]? == [b0, b1, b2, b3, b4, b5, b6, b7, b8][i]?) w _ ?hb]
  case hb =>
    intro i hi
    have : i = 0 ∨ i = 1 ∨ i = 2 ∨ i = 3 ∨ i = 4 ∨ i = 5 ∨ i = 6 ∨ i = 7 ∨ i = 8 := by
      simp [List.mem_range'] at hi
      omega
    rcases this with rfl | rfl | rfl | rfl | rfl | rfl | rfl | rfl | rfl <;> simp [go_sem, isAgg, Sem.run_bind, run_underlying Tryd.underlying5, hne]
    all_goals (split <;> rfl)
  have hc : ((List.range' 0 9).all fun i => [a0, a1, a2, a3, a4, a5, a6, a7, a8][i]? == [b0, b1, b2, b3, b4, b5, b6, b7, b8][i]?) =
      (decide (a0 = b0) && (decide (a1 = b1) && (decide (a2 = b2) && (decide (a3 = b3) && (decide (a4 = b4) && (decide (a5 = b5) && (decide (a6 = b6) && (decide (a7 = b7) && decide (a8 = b8))))))))) := by
    simp [List.range']
    rw [Bool.eq_iff_iff]
    simp
  rw [hc]
  generalize (decide (a0 = b0) && (decide (a1 = b1) && (decide (a2 = b2) && (decide (a3 = b3) && (decide (a4 = b4) && (decide (a5 = b5) && (decide (a6 = b6) && (decide (a7 = b7) && decide (a8 = b8))))))))) = q
  cases q <;> rfl
/-- How much is left on a tape. -/
def tapeLen (w : World) (T : Nat) : Nat := match w.cell? ⟨T, 0, none⟩ with
  | some (.string s) => s.size
  | _ => 0
theorem tapeLen_of {w : World} {T : Nat} {s : List UInt8} (h : SBox w T (strL s)) : tapeLen w T = s.length := by
  unfold tapeLen
  rw [h.cells.1]
  exact strL_size s

theorem eight (l : List UInt8) (h : l.length = 8) : ∃ r0 r1 r2 r3 r4 r5 r6 r7, l = [r0, r1, r2, r3, r4, r5, r6, r7] := by
  match l, h with
  | [r0, r1, r2, r3, r4, r5, r6, r7], _ => exact ⟨_, _, _, _, _, _, _, _, rfl⟩
theorem nine (l : List UInt8) (h : 9 ≤ l.length) : ∃ g0 g1 g2 g3 g4 g5 g6 g7 g8 rest, l = g0 :: g1 :: g2 :: g3 :: g4 :: g5 :: g6 :: g7 :: g8 :: rest := by
  match l, h with
  | g0 :: g1 :: g2 :: g3 :: g4 :: g5 :: g6 :: g7 :: g8 :: rest, _ => exact ⟨_, _, _, _, _, _, _, _, _, _, rfl⟩

theorem readG9 (out : List UInt8) (g0 g1 g2 g3 g4 g5 g6 g7 g8 : UInt8) (rest : List UInt8) : readG out (g0 :: g1 :: g2 :: g3 :: g4 :: g5 :: g6 :: g7 :: g8 :: rest) =
    if 9 < g8.toNat then none else if 200 < (out ++ [g0, g1, g2, g3, g4, g5, g6, g7].take (min g8.toNat 8)).length then none else
      if g8.toNat = 9 then (readG (out ++ [g0, g1, g2, g3, g4, g5, g6, g7].take (min g8.toNat 8)) rest).map fun r => (r.1, r.2 + 9)
      else if [g0, g1, g2, g3, g4, g5, g6, g7].take g8.toNat ++ List.replicate (8 - g8.toNat) 0 = [g0, g1, g2, g3, g4, g5, g6, g7] ∧ (0 < g8.toNat ∨ out = []) then some (out ++ [g0, g1, g2, g3, g4, g5, g6, g7].take (min g8.toNat 8), 9) else none := by
  have e1 : (g0 :: g1 :: g2 :: g3 :: g4 :: g5 :: g6 :: g7 :: g8 :: rest).take (min g8.toNat 8) = [g0, g1, g2, g3, g4, g5, g6, g7].take (min g8.toNat 8) := by
    have : (g0 :: g1 :: g2 :: g3 :: g4 :: g5 :: g6 :: g7 :: g8 :: rest) = [g0, g1, g2, g3, g4, g5, g6, g7] ++ g8 :: rest := rfl
    rw [this, List.take_append_of_le_length (by simp; omega)]
  have e3 : (g0 :: g1 :: g2 :: g3 :: g4 :: g5 :: g6 :: g7 :: g8 :: rest).getD 8 0 = g8 := rfl
  rw [readG, dif_neg (by simp)]
  simp only [e3, e1]
  by_cases h9 : 9 < g8.toNat
  · simp only [if_pos h9]
  · simp only [if_neg h9]
    by_cases h8 : g8.toNat = 9
    · simp only [if_pos h8]
      rfl
    · simp only [if_neg h8]
      have e2 : (g0 :: g1 :: g2 :: g3 :: g4 :: g5 :: g6 :: g7 :: g8 :: rest).take g8.toNat = [g0, g1, g2, g3, g4, g5, g6, g7].take g8.toNat := by
        have : (g0 :: g1 :: g2 :: g3 :: g4 :: g5 :: g6 :: g7 :: g8 :: rest) = [g0, g1, g2, g3, g4, g5, g6, g7] ++ g8 :: rest := rfl
        rw [this, List.take_append_of_le_length (by simp; omega)]
      rw [e2]
      rfl

set_option maxRecDepth 100000 in
set_option maxHeartbeats 4000000 in
theorem read_4 (T B : Nat) (k : Int) (t : List UInt8) (w : World) (hne : T ≠ B) (hT : SBox w T (strL t)) (hB : VBox w B k 0 0 (strL [])) (hl : t.length ≤ maxLen) :
    Calls Tryd.prog 51 #[.pointer (some ⟨T, 0, none⟩), .pointer (some ⟨B, 0, none⟩)] w (ReadK T B k t w ((readG [] t).map fun r => (0, 0, r.1, r.2))) := by
  have hTl := hT.lt
  have hBl := hB.lt
  go_enter Tryd.func51, Tryd.ntmps51
  go_wp2
  go_loopw [4] (fun o wr => ∃ (j : Nat) (A : Option Addr) (m d : Nat) (out : List UInt8), o = .slice A m d ∧ j ≤ t.length ∧ Ob wr w.heap.size 5 A m d out ∧ out.length ≤ 200 ∧ SBox wr T (strL (t.drop j)) ∧ VBox wr B k 0 0 (strL []) ∧ But T B w wr ∧
      readG [] t = (readG out (t.drop j)).map (fun r => (r.1, r.2 + j)))
    (fun o wr => tapeLen wr T)
  case atStart => exact ⟨0, none, 0, 0, [], rfl, by omega, Ov.nil _ _ _ _, by simp, by simpa using hT, hB, But.refl _ _ _, by simp⟩
  case round =>
    obtain ⟨j, A, m, d, out, rfl, hj, hOb, hol, hTr, hBr, hBu, hsp⟩ := hrel
    have hlen := hOb.len
    have hTlr := hTr.lt
    have hBlr := hBr.lt
    by_cases h9 : (t.drop j).length < 9
    · have hN : readG [] t = none := by
        rw [hsp, readG, dif_pos h9]
        rfl
      go_wp2_with (go_at_call 41; refine (take_no T (t.drop j) 9 _ hTr h9 (by decide)).mono ?_; rintro e w' ⟨rfl, rfl⟩)
      refine ⟨rfl, hBu, ?_⟩
      rw [hN]
      exact ⟨rfl, _, _, _, hBr⟩
    · obtain ⟨g0, g1, g2, g3, g4, g5, g6, g7, g8, rest, hg⟩ := nine (t.drop j) (by omega)
      rw [hg] at hTr hsp
      have hrl : rest.length + 9 ≤ maxLen := by
        have := congrArg List.length hg
        simp at this
        unfold maxLen at *
        omega
      have hdr : t.drop (j + 9) = rest := by
        rw [← List.drop_drop, hg]
        rfl
      have hj9 : j + 9 ≤ t.length := by
        have := congrArg List.length hg
        simp at this
        omega
      rw [readG9] at hsp
      obtain ⟨c, wb, hcv, hrd, hbb, hzb⟩ := conv_str (P := Tryd.prog) 9 52 5 Tryd.underlying9 Tryd.underlying52 Tryd.underlying5 (wr.setCell ⟨T, 0, none⟩ (.string (strL rest))) [g0, g1, g2, g3, g4, g5, g6, g7, g8] (by simp [maxLen])
      have hsz : (wr.setCell ⟨T, 0, none⟩ (.string (strL rest))).heap.size = wr.heap.size := by simp
      rw [hsz] at hcv hrd hzb hbb
      obtain ⟨b0, o0, e0, _, hcl⟩ := hrd.2.2.2 (by simp)
      injection e0 with e0
      injection e0 with e1 e2
      subst e1 e2
      simp only [Nat.zero_add] at hcl
      have c0 := hcl 0 _ rfl
      have c1 := hcl 1 _ rfl
      have c2 := hcl 2 _ rfl
      have c3 := hcl 3 _ rfl
      have c4 := hcl 4 _ rfl
      have c5 := hcl 5 _ rfl
      have c6 := hcl 6 _ rfl
      have c7 := hcl 7 _ rfl
      have c8 := hcl 8 _ rfl
      clear hcl hrd
      unfold cb at c0 c1 c2 c3 c4 c5 c6 c7 c8
      have hTb : SBox wb T (strL rest) := (hTr.set (strL rest)).below (hbb.mono (by simp))
      have hBb : VBox wb B k 0 0 (strL []) := (hBr.other (Ne.symm hne) (.string (strL rest))).below hbb hBlr
      have hOb2 : Ob wb w.heap.size 5 A m d out := Ov.below (Ov.grown hOb (grownBy_setCell_at wr ⟨T, 0, none⟩ (.string (strL rest))) (fun b hb e => by have := (hOb.ab b hb).1; have e : b = T := Option.some.inj e; omega)) (by rw [hsz]; exact hbb)
      have hBub : But T B w wb := (hBu.trans (But.setT _ _ _)).trans (But.of_below (by rw [hsz]; exact hbb))
      have hTake : Calls Tryd.prog 41 #[.pointer (some ⟨T, 0, none⟩), .int .i64 9] wr fun e w' => e = .returned (.string (strL [g0, g1, g2, g3, g4, g5, g6, g7, g8])) ∧ w' = wr.setCell ⟨T, 0, none⟩ (.string (strL rest)) := take_l T _ 9 wr hTr (by simp) (by simp; omega)
      replace hTake := Lib.hid hTake
      have hw64 : wrap64 (g8.toNat : Int) = (g8.toNat : Int) := by have := g8.toNat_lt; unfold wrap64; omega
      have hat := fun W => run_arrayAt (P := Tryd.prog) W 115 5 9 (some ⟨wr.heap.size, 0, none⟩) 9 c Tryd.underlying115 (Nat.le_refl _)
      go_wp2_with (go_at_call 41; refine hTake.out.mono ?_; rintro e w' ⟨rfl, rfl⟩)
      have hA0 : Arr (wb.alloc (.cells #[.int .u8 g0.toNat, .int .u8 g1.toNat, .int .u8 g2.toNat, .int .u8 g3.toNat, .int .u8 g4.toNat, .int .u8 g5.toNat, .int .u8 g6.toNat, .int .u8 g7.toNat, .int .u8 g8.toNat] 115)) wb.heap.size 115 [g0, g1, g2, g3, g4, g5, g6, g7, g8] := World.alloc_heap_new wb _
      have hwb : Below wb.heap.size wb (wb.alloc (.cells #[.int .u8 g0.toNat, .int .u8 g1.toNat, .int .u8 g2.toNat, .int .u8 g3.toNat, .int .u8 g4.toNat, .int .u8 g5.toNat, .int .u8 g6.toNat, .int .u8 g7.toNat, .int .u8 g8.toNat] 115)) := (Below.refl _ wb).alloc (Nat.le_refl _) _
      have hTc := hTb.below hwb
      have hBc := hBb.below hwb hBb.lt
      have hOc := hOb2.below hwb
      have hBuc := hBub.trans (But.of_below hwb)
      have hwl := hTc.lt
      have hA8 := hA0.cell (j := 8) (by simp)
      generalize (wb.alloc (.cells #[.int .u8 g0.toNat, .int .u8 g1.toNat, .int .u8 g2.toNat, .int .u8 g3.toNat, .int .u8 g4.toNat, .int .u8 g5.toNat, .int .u8 g6.toNat, .int .u8 g7.toNat, .int .u8 g8.toNat] 115)) = wc at *
      clear c0 c1 c2 c3 c4 c5 c6 c7 c8 hcv hbb hsz hTb hBb hOb2 hBub hwb
      have hAlt : ∀ b, ab A = some b → w.heap.size ≤ b ∧ b < wr.heap.size := hOb.ab
      by_cases hn9 : 9 < g8.toNat
      · have hN : readG [] t = none := by
          rw [hsp, if_pos hn9]
          rfl
        have hd : decide ((g8.toNat : Int) ≤ 9) = false := by simp; omega
        clear hsp hg
        simp only [hw64, hd]
        go_wp2_with (go_at_call 47; refine (must_false _).mono ?_; rintro e w' ⟨rfl, rfl⟩)
        refine ⟨rfl, hBuc, ?_⟩
        rw [hN]
        exact ⟨rfl, _, _, _, hBc⟩
      have hd : decide ((g8.toNat : Int) ≤ 9) = true := by simp; omega
      rw [if_neg hn9] at hsp
      obtain ⟨q, hq⟩ : ∃ q, min g8.toNat 8 = q := ⟨_, rfl⟩
      have hmin : min (g8.toNat : Int) 8 = (q : Int) := by omega
      rw [hq] at hsp
      have hrq : Rd wc (some ⟨wb.heap.size, 0, none⟩) q 9 ([g0, g1, g2, g3, g4, g5, g6, g7].take q) := by
        have h := hA0.rdn q 9 (by simp; omega) (by omega) (by decide)
        have e : [g0, g1, g2, g3, g4, g5, g6, g7, g8].take q = [g0, g1, g2, g3, g4, g5, g6, g7].take q := by
          have : [g0, g1, g2, g3, g4, g5, g6, g7, g8] = [g0, g1, g2, g3, g4, g5, g6, g7] ++ [g8] := rfl
          rw [this, List.take_append_of_le_length (by simp; omega)]
        rw [e] at h
        exact h
      have hq9 : (q : Int) ≤ 9 := by omega
      have hq0 : (0 : Int) ≤ (q : Int) := by omega
      have hwsz : w.heap.size ≤ wc.heap.size := hBuc.size
      replace hsp := Lib.hid hsp
      rw [hzb] at hrq
      simp only [hw64, hd]
      go_wp2_with (first
        | (go_at_call 47; refine (must_true _).mono ?_; rintro e w' ⟨rfl, rfl⟩)
        | (at_builtin; refine wpList_append_b _ rfl _ _ 52 rfl 5 Tryd.underlying52 info_u8 w.heap.size _ _ _ _ rfl hOc _ q 9 _ rfl hrq (by omega) hwsz ?_; intro A' d' wd hOd hgd habd))
      have hzd := hgd.size
      have hAd := hA0.kept hgd (fun e => by have := (hAlt _ e.symm).2; omega)
      have hTd : SBox wd T (strL rest) := (hgd.block T hwl (fun e => by have := (hAlt _ e.symm).1; omega)).trans hTc
      have hBd : VBox wd B k 0 0 (strL []) := (hgd.block B hBc.lt (fun e => by have := (hAlt _ e.symm).1; omega)).trans hBc
      have hBud : But T B w wd := ⟨hgd.os.trans hBuc.os, hgd.tape.trans hBuc.tape, hgd.output.trans hBuc.output, Nat.le_trans hBuc.size hgd.size, fun j hj h1 h2 => (hgd.block j (Nat.lt_of_lt_of_le hj hBuc.size) (fun e => by have := (hAlt _ e.symm).1; omega)).trans (hBuc.block j hj h1 h2)⟩
      have hlo := hOd.len
      rw [hzb] at hAd
      have hA8d := hAd.cell (j := 8) (by simp)
      clear hOc hTc hBc hgd hA0 hA8 hrq hBuc
      by_cases hl2 : 200 < m + q
      · have hN : readG [] t = none := by
          rw [hsp.out, if_pos (by omega)]
          rfl
        have hd2 : decide ((m : Int) + (q : Int) ≤ 200) = false := by simp; omega
        clear hsp hg
        simp only [hd2]
        go_wp2_with (go_at_call 47; refine (must_false _).mono ?_; rintro e w' ⟨rfl, rfl⟩)
        refine ⟨rfl, hBud, ?_⟩
        rw [hN]
        exact ⟨rfl, _, _, _, hBd⟩
      have hd2 : decide ((m : Int) + (q : Int) ≤ 200) = true := by simp; omega
      simp only [hd2]
      by_cases h99 : g8.toNat = 9
      · have hd3 : ((g8.toNat : Int) == 9) = true := by rw [h99]; rfl
        have hN : readG [] t = (readG (out ++ [g0, g1, g2, g3, g4, g5, g6, g7].take q) rest).map fun r => (r.1, r.2 + (j + 9)) := by
          rw [hsp.out, if_neg (by omega), if_pos h99, Option.map_map]
          congr 1
          funext r
          simp
          omega
        replace hN := Lib.hid hN
        clear hsp
        go_wp2_with (go_at_call 47; refine (must_true _).mono ?_; rintro e w' ⟨rfl, rfl⟩)
        refine ⟨⟨j + 9, A', m + q, d', _, rfl, hj9, hOd, by omega, by rw [hdr]; exact hTd, hBd, hBud, by rw [hdr]; exact hN.out⟩, ?_⟩
        rw [tapeLen_of hTd, tapeLen_of hTr]
        simp
        omega
      have hd3 : ((g8.toNat : Int) == 9) = false := by simp; omega
      have hN : readG [] t = (if [g0, g1, g2, g3, g4, g5, g6, g7].take g8.toNat ++ List.replicate (8 - g8.toNat) 0 = [g0, g1, g2, g3, g4, g5, g6, g7] ∧ (0 < g8.toNat ∨ out = []) then some (out ++ [g0, g1, g2, g3, g4, g5, g6, g7].take q, j + 9) else none) := by
        rw [hsp.out, if_neg (by omega), if_neg h99]
        split
        · simp
          omega
        · rfl
      have hqn : q = g8.toNat := by omega
      subst hqn
      replace hN := Lib.hid hN
      clear hsp
      go_wp2_with (go_at_call 47; refine (must_true _).mono ?_; rintro e w' ⟨rfl, rfl⟩)
      have hwe : Below wd.heap.size wd ((wd.alloc (.cells #[.int .u8 0, .int .u8 0, .int .u8 0, .int .u8 0, .int .u8 0, .int .u8 0, .int .u8 0, .int .u8 0, .int .u8 0] 115)).drew) := ((Below.refl _ wd).alloc (Nat.le_refl _) _).drew
      obtain ⟨W2, hcopy, hW2, hg2⟩ := copy_to (P := Tryd.prog) ((wd.alloc (.cells #[.int .u8 0, .int .u8 0, .int .u8 0, .int .u8 0, .int .u8 0, .int .u8 0, .int .u8 0, .int .u8 0, .int .u8 0] 115)).drew) 52 52 3 5 Tryd.underlying52 (by kernel_rfl) wd.heap.size 9 9 (some ⟨wr.heap.size + 1, 0, none⟩) g8.toNat 9 (List.replicate 9 0) 115 _ (World.alloc_heap_new wd _) (by omega) (by simp) ((hAd.rdn g8.toNat 9 (by simp; omega) (by omega) (by decide)).below hwe)
      have hsz2 := hg2.size
      have hAe := (hAd.below hwe).kept hg2 (fun e => by injection e with e; have := hAd.lt; omega)
      have hTe : SBox W2 T (strL rest) := (hg2.block T (by simp; have := hTd.lt; omega) (fun e => by injection e with e; have := hTd.lt; omega)).trans (hTd.below hwe)
      have hBe : VBox W2 B k 0 0 (strL []) := (hg2.block B (by simp; have := hBd.lt; omega) (fun e => by injection e with e; have := hBd.lt; omega)).trans (hBd.below hwe hBd.lt)
      have hOe := (hOd.below hwe).grown hg2 (fun b hb e => by have := (hOd.ab b hb).2; have e : b = wd.heap.size := Option.some.inj e; omega)
      have hBue : But T B w W2 := (hBud.trans (But.of_below hwe)).grown hg2 (fun r e => by injection e with e; have := hBud.size; omega)
      have hg9 : (g8.toNat : Int) ≤ 9 := by omega
      have hg0 : (0 : Int) ≤ (g8.toNat : Int) := by omega
      refine wp_region_noPanic ?_
      refine wp_region_held_drew (S := fun w' => True) (by kernel_rfl) trivial (fun hHeld => ?_)
      refine wpAnyH_takeL (i := 0) (v := ?vhy1) rfl (by kernel_rfl) (by kernel_rfl) (by kernel_rfl) (fun _ _ _ h => h) (Or.inl ⟨by rfl, ?hy1⟩) (by assumption) ?rhy1
      case hy1 => ((intro w hSw; (try dsimp only at hSw); go_simp); try with_reducible rfl)
      try simp only [Act.put, List.setIfInBounds_toArray, List.set_cons_zero, List.set_cons_succ]
      refine wpAnyH_takeL (i := 1) (v := ?vhy2) rfl (by kernel_rfl) (by kernel_rfl) (by kernel_rfl) (fun _ _ _ h => h) (Or.inl ⟨by rfl, ?hy2⟩) (by assumption) ?rhy2
      case hy2 => ((intro w hSw; (try dsimp only at hSw); go_simp); try with_reducible rfl)
      try simp only [Act.put, List.setIfInBounds_toArray, List.set_cons_zero, List.set_cons_succ]
      refine wpAnyH_takeL (i := 2) (v := ?vhy3) rfl (by kernel_rfl) (by kernel_rfl) (by kernel_rfl) (fun _ _ _ h => h) (Or.inl ⟨by rfl, ?hy3⟩) (by assumption) ?rhy3
      case hy3 => ((intro w hSw; (try dsimp only at hSw); go_simp); try with_reducible rfl)
      try simp only [Act.put, List.setIfInBounds_toArray, List.set_cons_zero, List.set_cons_succ]
      refine wpAnyH_ready (rs := [3]) (by kernel_rfl) (by simp) ?_
      refine AllReadyH.consL (i := 3) rfl (fun K hK => ?_) AllReadyH.nil
      go_simp
      refine hK.out _ _ trivial (fun hHeld => ?_)
      clear hK hcopy
      try simp only [Act.put, List.setIfInBounds_toArray, List.set_cons_zero, List.set_cons_succ]
      refine wpAnyH_done (by kernel_rfl) ?_ _
      refine NoPanic.normal ?_
      have hAf : Arr W2 wd.heap.size 115 ([g0, g1, g2, g3, g4, g5, g6, g7, g8].take g8.toNat ++ (List.replicate 9 (0 : UInt8)).drop g8.toNat) := hW2
      have hA8e := hAe.cell (j := 8) (by simp)
      obtain ⟨v8, hA8f⟩ : ∃ v, W2.cell? ⟨wd.heap.size, 8, none⟩ = some v := ⟨_, hAf.cell (j := 8) (by simp; omega)⟩
      have hf8f := hAf.frozen 8
      have hAg := hAf.set 8 (v := .int .u8 (g8.toNat : Int)) (b := g8) rfl
      obtain ⟨r0, r1, r2, r3, r4, r5, r6, r7, hr⟩ := eight ([g0, g1, g2, g3, g4, g5, g6, g7].take g8.toNat ++ List.replicate (8 - g8.toNat) 0) (by simp; omega)
      have hset : ([g0, g1, g2, g3, g4, g5, g6, g7, g8].take g8.toNat ++ (List.replicate 9 (0 : UInt8)).drop g8.toNat).set 8 g8 = [r0, r1, r2, r3, r4, r5, r6, r7, g8] := by
        have e1 : [g0, g1, g2, g3, g4, g5, g6, g7, g8].take g8.toNat = [g0, g1, g2, g3, g4, g5, g6, g7].take g8.toNat := by
          have : [g0, g1, g2, g3, g4, g5, g6, g7, g8] = [g0, g1, g2, g3, g4, g5, g6, g7] ++ [g8] := rfl
          rw [this, List.take_append_of_le_length (by simp; omega)]
        have e3 : (List.replicate 9 (0 : UInt8)).drop g8.toNat = List.replicate (8 - g8.toNat) 0 ++ [0] := by
          rw [List.drop_replicate, show 9 - g8.toNat = (8 - g8.toNat) + 1 from by omega, List.replicate_succ']
        rw [e1, e3, ← List.append_assoc, hr]
        rfl
      rw [hset] at hAg
      have hAh := hAe.kept (grownBy_setCell_at W2 ⟨wd.heap.size, 8, none⟩ (.int .u8 (g8.toNat : Int))) (by have := hAd.lt; simp; omega)
      have hTh := hTe.other (B' := wd.heap.size) (o := 8) (by have := hTd.lt; omega) (.int .u8 (g8.toNat : Int))
      have hBh := hBe.other (B' := wd.heap.size) (o := 8) (by have := hBd.lt; omega) (.int .u8 (g8.toNat : Int))
      have hOh := Ov.grown hOe (grownBy_setCell_at W2 ⟨wd.heap.size, 8, none⟩ (.int .u8 (g8.toNat : Int))) (fun b hb e => by have := (hOd.ab b hb).2; have e : b = wd.heap.size := Option.some.inj e; omega)
      have hBuh : But T B w (W2.setCell ⟨wd.heap.size, 8, none⟩ (.int .u8 (g8.toNat : Int))) := hBue.grown (grownBy_setCell_at W2 ⟨wd.heap.size, 8, none⟩ (.int .u8 (g8.toNat : Int))) (fun r e => by have e : wd.heap.size = r := Option.some.inj e; have := hBud.size; omega)
      have d0 : (W2.setCell ⟨wd.heap.size, 8, none⟩ (.int .u8 (g8.toNat : Int))).cell? ⟨wd.heap.size, 0, none⟩ = some (.int .u8 (r0.toNat : Int)) := hAg.cell (j := 0) (by simp)
      have e0 : (W2.setCell ⟨wd.heap.size, 8, none⟩ (.int .u8 (g8.toNat : Int))).cell? ⟨wr.heap.size + 1, 0, none⟩ = some (.int .u8 (g0.toNat : Int)) := hAh.cell (j := 0) (by simp)
      have d1 : (W2.setCell ⟨wd.heap.size, 8, none⟩ (.int .u8 (g8.toNat : Int))).cell? ⟨wd.heap.size, 1, none⟩ = some (.int .u8 (r1.toNat : Int)) := hAg.cell (j := 1) (by simp)
      have e1 : (W2.setCell ⟨wd.heap.size, 8, none⟩ (.int .u8 (g8.toNat : Int))).cell? ⟨wr.heap.size + 1, 1, none⟩ = some (.int .u8 (g1.toNat : Int)) := hAh.cell (j := 1) (by simp)
      have d2 : (W2.setCell ⟨wd.heap.size, 8, none⟩ (.int .u8 (g8.toNat : Int))).cell? ⟨wd.heap.size, 2, none⟩ = some (.int .u8 (r2.toNat : Int)) := hAg.cell (j := 2) (by simp)
      have e2 : (W2.setCell ⟨wd.heap.size, 8, none⟩ (.int .u8 (g8.toNat : Int))).cell? ⟨wr.heap.size + 1, 2, none⟩ = some (.int .u8 (g2.toNat : Int)) := hAh.cell (j := 2) (by simp)
      have d3 : (W2.setCell ⟨wd.heap.size, 8, none⟩ (.int .u8 (g8.toNat : Int))).cell? ⟨wd.heap.size, 3, none⟩ = some (.int .u8 (r3.toNat : Int)) := hAg.cell (j := 3) (by simp)
      have e3 : (W2.setCell ⟨wd.heap.size, 8, none⟩ (.int .u8 (g8.toNat : Int))).cell? ⟨wr.heap.size + 1, 3, none⟩ = some (.int .u8 (g3.toNat : Int)) := hAh.cell (j := 3) (by simp)
      have d4 : (W2.setCell ⟨wd.heap.size, 8, none⟩ (.int .u8 (g8.toNat : Int))).cell? ⟨wd.heap.size, 4, none⟩ = some (.int .u8 (r4.toNat : Int)) := hAg.cell (j := 4) (by simp)
      have e4 : (W2.setCell ⟨wd.heap.size, 8, none⟩ (.int .u8 (g8.toNat : Int))).cell? ⟨wr.heap.size + 1, 4, none⟩ = some (.int .u8 (g4.toNat : Int)) := hAh.cell (j := 4) (by simp)
      have d5 : (W2.setCell ⟨wd.heap.size, 8, none⟩ (.int .u8 (g8.toNat : Int))).cell? ⟨wd.heap.size, 5, none⟩ = some (.int .u8 (r5.toNat : Int)) := hAg.cell (j := 5) (by simp)
      have e5 : (W2.setCell ⟨wd.heap.size, 8, none⟩ (.int .u8 (g8.toNat : Int))).cell? ⟨wr.heap.size + 1, 5, none⟩ = some (.int .u8 (g5.toNat : Int)) := hAh.cell (j := 5) (by simp)
      have d6 : (W2.setCell ⟨wd.heap.size, 8, none⟩ (.int .u8 (g8.toNat : Int))).cell? ⟨wd.heap.size, 6, none⟩ = some (.int .u8 (r6.toNat : Int)) := hAg.cell (j := 6) (by simp)
      have e6 : (W2.setCell ⟨wd.heap.size, 8, none⟩ (.int .u8 (g8.toNat : Int))).cell? ⟨wr.heap.size + 1, 6, none⟩ = some (.int .u8 (g6.toNat : Int)) := hAh.cell (j := 6) (by simp)
      have d7 : (W2.setCell ⟨wd.heap.size, 8, none⟩ (.int .u8 (g8.toNat : Int))).cell? ⟨wd.heap.size, 7, none⟩ = some (.int .u8 (r7.toNat : Int)) := hAg.cell (j := 7) (by simp)
      have e7 : (W2.setCell ⟨wd.heap.size, 8, none⟩ (.int .u8 (g8.toNat : Int))).cell? ⟨wr.heap.size + 1, 7, none⟩ = some (.int .u8 (g7.toNat : Int)) := hAh.cell (j := 7) (by simp)
      have d8 : (W2.setCell ⟨wd.heap.size, 8, none⟩ (.int .u8 (g8.toNat : Int))).cell? ⟨wd.heap.size, 8, none⟩ = some (.int .u8 (g8.toNat : Int)) := hAg.cell (j := 8) (by simp)
      have e8 : (W2.setCell ⟨wd.heap.size, 8, none⟩ (.int .u8 (g8.toNat : Int))).cell? ⟨wr.heap.size + 1, 8, none⟩ = some (.int .u8 (g8.toNat : Int)) := hAh.cell (j := 8) (by simp)
      have heq := fun W => eql_A r0 r1 r2 r3 r4 r5 r6 r7 g8 g0 g1 g2 g3 g4 g5 g6 g7 g8 W
      unfold a9 at heq
      have hlen2 := Ob.len hOh
      rw [hr] at hN
      have hsc := run_conv_b (P := Tryd.prog) (W2.setCell ⟨wd.heap.size, 8, none⟩ (.int .u8 (g8.toNat : Int))) 52 9 5 Tryd.underlying52 Tryd.underlying5 Tryd.underlying9 (Ob.rd hOh)
      have hcB := hBh.cells.2.2.2
      have hfB := hBh.frozen 3
      have hl0 : out.length = m := hlen
      clear hAg hAh hr hl2 hd2 hd hn9 hw64 hmin hg hol hAf hAe hTe hBe hOe hBue hset hW2 hg2
      by_cases hE : [r0, r1, r2, r3, r4, r5, r6, r7] = [g0, g1, g2, g3, g4, g5, g6, g7]
      · have hE9 : decide ([r0, r1, r2, r3, r4, r5, r6, r7, g8] = [g0, g1, g2, g3, g4, g5, g6, g7, g8]) = true := by
          rw [decide_eq_true_iff]
          have h := congrArg (· ++ [g8]) hE
          exact h
        generalize decide ([r0, r1, r2, r3, r4, r5, r6, r7, g8] = [g0, g1, g2, g3, g4, g5, g6, g7, g8]) = bb at heq hE9
        subst hE9
        by_cases hn0 : 0 < g8.toNat
        · have hdn : decide ((0 : Int) < (g8.toNat : Int)) = true := by simp; omega
          have hN2 : readG [] t = some (out ++ [g0, g1, g2, g3, g4, g5, g6, g7].take g8.toNat, j + 9) := by
            rw [hN.out, if_pos ⟨hE, .inl hn0⟩]
          replace hN2 := Lib.hid hN2
          clear hN hE hl0
          try clear ho
          go_wp2_with (go_at_call 47; refine (must_true _).mono ?_; rintro e w' ⟨rfl, rfl⟩)
          go_end0
          refine ⟨hBuh.trans (But.setB _ _ _), ?_⟩
          rw [hN2.out]
          exact ⟨rfl, by rw [hdr]; exact hTh.other hne _, hBh.setS _⟩
        · have hdn : decide ((0 : Int) < (g8.toNat : Int)) = false := by simp; omega
          by_cases ho : out = []
          · have hm0 : ((m : Int) + (g8.toNat : Int) == 0) = true := by
              rw [ho] at hl0
              simp at hl0
              simp
              omega
            have hN2 : readG [] t = some (out ++ [g0, g1, g2, g3, g4, g5, g6, g7].take g8.toNat, j + 9) := by
              rw [hN.out, if_pos ⟨hE, .inr ho⟩]
            replace hN2 := Lib.hid hN2
            clear hN hE hl0
            try clear ho
            go_wp2_with (go_at_call 47; refine (must_true _).mono ?_; rintro e w' ⟨rfl, rfl⟩)
            go_end0
            refine ⟨hBuh.trans (But.setB _ _ _), ?_⟩
            rw [hN2.out]
            exact ⟨rfl, by rw [hdr]; exact hTh.other hne _, hBh.setS _⟩
          · have hm0 : ((m : Int) + (g8.toNat : Int) == 0) = false := by
              have : 0 < out.length := List.length_pos_iff.2 ho
              simp
              omega
            have hN2 : readG [] t = none := by
              rw [hN.out, if_neg (fun h => h.2.elim hn0 ho)]
            replace hN2 := Lib.hid hN2
            clear hN hE hl0
            go_wp2_with (go_at_call 47; refine (must_false _).mono ?_; rintro e w' ⟨rfl, rfl⟩)
            refine ⟨rfl, hBuh, ?_⟩
            rw [hN2.out]
            exact ⟨rfl, _, _, _, hBh⟩
      · have hE9 : decide ([r0, r1, r2, r3, r4, r5, r6, r7, g8] = [g0, g1, g2, g3, g4, g5, g6, g7, g8]) = false := by
          rw [decide_eq_false_iff_not]
          intro h
          apply hE
          simp at h
          simp [h]
        generalize decide ([r0, r1, r2, r3, r4, r5, r6, r7, g8] = [g0, g1, g2, g3, g4, g5, g6, g7, g8]) = bb at heq hE9
        subst hE9
        have hN2 : readG [] t = none := by
          rw [hN.out, if_neg (fun h => hE h.1)]
        replace hN2 := Lib.hid hN2
        clear hN hE hl0
        go_wp2_with (go_at_call 47; refine (must_false _).mono ?_; rintro e w' ⟨rfl, rfl⟩)
        refine ⟨rfl, hBuh, ?_⟩
        rw [hN2.out]
        exact ⟨rfl, _, _, _, hBh⟩
end Go.Proofs.YtdgmhegcoogokaaDoor
