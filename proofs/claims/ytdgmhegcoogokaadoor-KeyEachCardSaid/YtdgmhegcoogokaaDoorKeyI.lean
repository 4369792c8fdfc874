/- key.Each: what it goes over, and its contract as an iterator. -/
import Derived.Test.YtdgmhegcoogokaaDoorKeyH
import Derived.Test.YtdgmhegcoogokaaDoorChunk
import Derived.Test.YtdgmhegcoogokaaDoorRange
namespace Go.Proofs.YtdgmhegcoogokaaDoor
open Go.RowKit Go.Shelf
set_option linter.unusedVariables false

theorem readV_le {l : List UInt8} {x : Vl} {n : Nat} (h : readV l = some (x, n)) : 1 ≤ n ∧ n ≤ l.length := by
  cases l with
  | nil => cases h
  | cons b t =>
    rw [readV_cons] at h
    split at h
    · cases h
    · rw [Option.map_eq_some_iff] at h
      obtain ⟨⟨i, u, s, m⟩, h1, h2⟩ := h
      have := readR_le h1
      injection h2 with _ h2
      simp at h2 ⊢
      omega

/-- A place at which a value stands, and it. -/
structure Place (l : List UInt8) where
  at_ : Nat
  x : Vl
  k : Nat
  le : at_ ≤ l.length
  reads : readV (l.drop at_) = some (x, k)
/-- The values from a place on. -/
inductive KChain (l : List UInt8) : Nat → List (Place l) → Prop
  | stop (i : Nat) : readV (l.drop i) = none → KChain l i []
  | more (p : Place l) (rest : List (Place l)) : KChain l (p.at_ + p.k) rest → KChain l p.at_ (p :: rest)
theorem KChain.all (l : List UInt8) : ∀ d i, i ≤ l.length → l.length - i ≤ d → ∃ xs, KChain l i xs := by
  intro d
  induction d with
  | zero =>
    intro i h1 h2
    refine ⟨[], .stop i ?_⟩
    rw [List.drop_eq_nil_of_le (by omega)]
    rfl
  | succ d ih =>
    intro i h1 h2
    cases h : readV (l.drop i) with
    | none => exact ⟨[], .stop i h⟩
    | some r =>
      obtain ⟨x, k⟩ := r
      have hk := readV_le h
      rw [List.length_drop] at hk
      obtain ⟨xs, hxs⟩ := ih (i + k) (by omega) (by omega)
      exact ⟨_, .more ⟨i, x, k, h1, h⟩ xs hxs⟩
theorem Place.step {l : List UInt8} (p : Place l) : 1 ≤ p.k ∧ p.at_ + p.k ≤ l.length := by
  have hk := readV_le p.reads
  have := p.le
  rw [List.length_drop] at hk
  omega
theorem KChain.length {l : List UInt8} {i : Nat} {xs : List (Place l)} (h : KChain l i xs) (hi : i ≤ l.length) : xs.length ≤ l.length - i := by
  induction h with
  | stop => simp
  | more p rest _ ih =>
    have hk := p.step
    have := ih (by omega)
    simp; omega

theorem KEach_any (s : ByteArray) (w : World) :
    Calls Tryd.prog 17 #[.string s] w fun e w' => e = .returned (.func (.func 29) #[] #[.pointer (some ⟨w.heap.size, 0, none⟩)]) ∧ w' = w.alloc (.cells #[.string s] 9) := by
  go_enter Tryd.func17, Tryd.ntmps17
  go_wp2
  go_ret
  exact ⟨rfl, rfl⟩

/-- How the iterator hands over a value. -/
def encK {l : List UInt8} (p : Place l) : Array Value := #[.int .i64 (p.at_ : Int), p.x.val]

theorem SeqStopsK.weak {α : Type} {F : Fence} {n : Nat} {P : Program} {g : Nat} {lb : Array Value} {encs : α → Array Value} {Kp Kp' : World → World → Prop} {S Sp : List α → Prop} {N : Nat} {w : World} (h : SeqStopsK F n P g lb encs Kp S Sp N w) (hk : ∀ a b, Kp' a b → Kp a b) : SeqStopsK F n P g lb encs Kp' S Sp N w :=
  fun L J Jx W h1 h2 h3 h4 h5 => h L J Jx W h1 h2 h3 (fun pre x W1 h6 h7 => by
    obtain ⟨fn, tmps, assign, body, hy, hR⟩ := h4 pre x W1 h6 h7
    exact ⟨fn, tmps, assign, body, hy, hR.mono fun e W' q => q.imp (fun q => ⟨q.1, q.2.1, hk _ _ q.2.2⟩) id⟩) h5

attribute [local go_sem] Oper.semAt_some

set_option maxRecDepth 100000 in
set_option maxHeartbeats 2000000 in
theorem KEach1_stops (V : World) (Bn : Nat) (l : List UInt8) (xs : List (Place l)) (hB : V.cell? ⟨Bn, 0, none⟩ = some (.string (strL l))) (hl : l.length ≤ maxLen) (hx : KChain l 0 xs) (lo hi : Nat) (hlo : lo ≤ Bn) (hhi : Bn < hi) (hhV : hi ≤ V.heap.size)
    (m : Nat) (w : World) (hw : Below V.heap.size V w) :
    SeqStopsK Fence.wide m Tryd.prog 29 #[.pointer (some ⟨Bn, 0, none⟩)] encK (Rng lo hi) (fun ys => ys = xs) (fun pre => pre <+: xs) xs.length w := fun L J Jx W hW hJ hJx hY h0 => by
  have hsz : (strL l).size = l.length := strL_size l
  have hl63 : l.length ≤ 9223372036854775807 := hl
  refine callsIn_of_wp Tryd.func29 rfl trivial ?_ rfl
  simp only [Tryd.ntmps29, List.size_toArray, List.length_cons, List.length_nil, Nat.reduceAdd, Nat.reduceSub, Array.replicate_succ, Array.replicate_zero, List.push_toArray, List.append_toArray, List.nil_append, List.cons_append]
  refine wpIn_wide.2 (wp_scope_straight (wpIn_wide (n := m).1 ?_))
  gi_wp2
  refine wpIn_label ?_
  gi_wp2
  gi_loopw [3] (fun p wr => ∃ (pre rest : List (Place l)) (i : Nat), p = .int .i64 (i : Int) ∧ i ≤ l.length ∧ xs = pre ++ rest ∧ KChain l i rest ∧ J pre wr ∧ Rng lo hi V wr ∧ W.heap.size ≤ wr.heap.size)
    (fun p wr => l.length - (intOf p).toNat)
  case atStart => exact ⟨[], xs, 0, rfl, by omega, rfl, hx, h0, Rng.of_below ((hw.trans (hW.mono hw.size)).mono hhV), Nat.le_refl _⟩
  case round =>
    obtain ⟨pre, rest, i, rfl, hi', hxs, hch, hJs, hbw, hsz'⟩ := hrel
    have hc := (hbw.cell (o := 0) hlo hhi).trans hB
    have hex : (strL l).extract i (strL l).size = strL (l.drop i) := strL_hi l i
    rw [hsz] at hex
    gi_wp2_with fail
    refine ⟨trivial, fun h => (by cases h), callsIn_wide.2 ?_⟩
    refine (one_any (l.drop i) wr (by simp; omega)).mono ?_
    rintro e W1 ⟨rfl, hb1⟩
    have hJ1 := hJ pre wr W1 none hJs (grown_of_below' hb1) (fun r e => by cases e)
    have hbw1 := hbw.trans (Rng.of_below (hb1.mono (Nat.le_trans hhV hbw.1)))
    have hsz1 := Nat.le_trans hsz' hb1.size
    cases hch with
    | stop _ hno =>
      have hone : oneV (l.drop i) = (zeroV, 0, 150) := by unfold oneV; rw [hno]
      rw [hone]
      simp only [Vl.val, valV, zeroV]
      have hJ2 := hJ pre W1 (W1.alloc (.cells #[.int .i64 0, .int .i64 0, .int .u64 0, .string (strL [])] 42)) none hJ1 (World.grownBy_alloc W1 _ none) (fun r e => by cases e)
      gi_wp2
      refine ⟨fun _ h => (by cases h), ?_⟩
      gi_wp2
      simp only [Exit.noGoto]
      go_end0
      exact ⟨⟨_, rfl⟩, .inl ⟨pre, by simp [hxs], hJ2⟩⟩
    | more p rest hch =>
      have hre := p.reads
      have hkl := p.step
      have hyp := fun W1 h => hY pre p W1 h (by rw [hxs]; simp)
      have hpx : ∃ p' : Place l, p' = p := ⟨p, rfl⟩
      obtain ⟨p', hp'⟩ := hpx
      obtain ⟨i, x, k, hple, _⟩ := p
      dsimp only at *
      have hone : oneV (l.drop i) = (x, k, 0) := by unfold oneV; rw [hre]
      rw [hone]
      obtain ⟨xk, xi, xu, xs'⟩ := x
      simp only [Vl.val, valV]
      have hb2 : Below W1.heap.size W1 (W1.alloc (.cells #[.int .i64 xk, .int .i64 xi, .int .u64 xu, .string (strL xs')] 42)) := (Below.refl _ W1).alloc (Nat.le_refl _) _
      have hJ2 := hJ pre W1 (W1.alloc (.cells #[.int .i64 xk, .int .i64 xi, .int .u64 xu, .string (strL xs')] 42)) none hJ1 (World.grownBy_alloc W1 _ none) (fun r e => by cases e)
      have hbw2 := hbw1.trans (Rng.of_below (hb2.mono (Nat.le_trans hhV hbw1.1)))
      obtain ⟨fn, tmps, assign, body, hy, hR⟩ := hyp _ hJ2
      rw [← hp'] at hR hxs
      dsimp only [encK, Vl.val, valV] at hy
      gi_wp2
      refine ⟨fun h => (by cases h), ?_⟩
      refine hR.mono ?_
      rintro e W3 (⟨rfl, hJ3, hk3⟩ | ⟨rfl, hJx3⟩)
      · gi_wp2
        exact ⟨⟨pre ++ [p'], rest, i + k, by simp, by omega, by simp [hxs], hch, hJ3, hbw2.trans hk3, Nat.le_trans hsz1 (Nat.le_trans hb2.size hk3.1)⟩, by simp [intOf]; omega⟩
      · gi_wp2
        simp only [Exit.noGoto]
        go_end0
        exact ⟨⟨_, rfl⟩, .inr ⟨pre ++ [p'], ⟨rest, by simp [hxs]⟩, hJx3⟩⟩
end Go.Proofs.YtdgmhegcoogokaaDoor
