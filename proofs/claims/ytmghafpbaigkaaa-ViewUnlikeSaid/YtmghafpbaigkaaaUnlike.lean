/-
  The law of how far any samples are from others. Conditions: none.
-/
import Derived.Test.YtmghafpbaigkaaaPow
namespace Go.Proofs.Ytmghafpbaigkaaa
open Go Go.Sx
set_option maxRecDepth 100000
set_option linter.unusedVariables false
attribute [local simp] asI_i asB_b asL_l asN_n asS_s asE_nil altK_none altK_0 altK_1 altK_2 altK_3 optK_some optK_none Bool.cond_decide Bool.cond_not Int.toNat_natCast
set_option linter.unusedSimpArgs false
theorem altK_5 {α : Type} (r : List Leaf) (k k1 k2 k3 k4 k5 : List Leaf → α) (ks : List (List Leaf → α)) (z : α) : altK (some (5, r)) (k :: k1 :: k2 :: k3 :: k4 :: k5 :: ks) z = k5 r := rfl
theorem altK_6 {α : Type} (r : List Leaf) (k k1 k2 k3 k4 k5 k6 : List Leaf → α) (ks : List (List Leaf → α)) (z : α) : altK (some (6, r)) (k :: k1 :: k2 :: k3 :: k4 :: k5 :: k6 :: ks) z = k6 r := rfl
theorem loopL_all {m : Nat} {f : Nat × List Leaf → Option (Nat × List Leaf)} (S : Nat → List Leaf) (p : Nat → Bool) {j1 j2 : Nat} {r1 r2 : List Leaf} (hm : 0 < m) (N : Nat) (hs : ∀ k, k < N → p k = true → f (0, S k) = some (0, S (k + 1))) (hf : ∀ k, k < N → p k = false → f (0, S k) = some (m + j2, r2)) (he : (∀ k, k < N → p k = true) → f (0, S N) = some (m + j1, r1)) (hN : N < 18446744073709551616) :
    (loopL m f (0, S 0) = some (j1, r1) ∧ ∀ k, k < N → p k = true) ∨ loopL m f (0, S 0) = some (j2, r2) := by
  by_cases h : ∀ k, k < N → p k = true
  · left
    exact ⟨loopL_run (fun k => (0, S k)) N (fun k hk => ⟨hs k hk (h k hk), hm⟩) (he h) hN, h⟩
  · right
    obtain ⟨k, hk⟩ := Classical.not_forall.1 h
    rw [Classical.not_imp] at hk
    obtain ⟨k, hk, hpk, hmin⟩ : ∃ k, k < N ∧ p k = false ∧ ∀ i, i < k → p i = true := by
      obtain ⟨hk, hp0⟩ := hk
      have hp : p k = false := by simpa using hp0
      clear h hp0
      induction k using Nat.strongRecOn with
      | _ k ih =>
        by_cases hall : ∀ i, i < k → p i = true
        · exact ⟨k, hk, hp, hall⟩
        · obtain ⟨i, hi⟩ := Classical.not_forall.1 hall
          rw [Classical.not_imp] at hi
          exact ih i hi.1 (by omega) (by simpa using hi.2)
    exact loopL_run (fun k => (0, S k)) k (fun i hi => ⟨hs i (by omega) (hmin i hi), hm⟩) (hf k hk hpk) (by omega)
theorem loopL_last {m : Nat} {f : Nat × List Leaf → Option (Nat × List Leaf)} {s : Nat × List Leaf} {j : Nat} {r : List Leaf} (h : f s = some (m + j, r)) : loopL m f s = some (j, r) := loop_last h _
def dV (a b : List Int) (k : Nat) : Int := holdV (a.getD k 0 - b.getD k 0)
def farV (a b : List Int) : Nat → Int
  | 0 => 0
  | k + 1 => if farV a b k < dV a b k then dV a b k else farV a b k
def cntV (a b : List Int) : Nat → Int
  | 0 => 0
  | k + 1 => if 0 < dV a b k then cntV a b k + 1 else cntV a b k
def sumV (a b : List Int) : Nat → Int
  | 0 => 0
  | k + 1 => addV (sumV a b k) (dV a b k * dV a b k)
theorem sq_range (d : Int) : 0 ≤ holdV d * holdV d ∧ holdV d * holdV d ≤ 4611686014132420609 := by
  have h := holdV_range d
  generalize holdV d = x at *
  have h1 : 0 ≤ x * x := Int.mul_nonneg h.1 h.1
  have h2 : x * x ≤ 2147483647 * 2147483647 := Int.mul_le_mul h.2 h.2 h.1 (by omega)
  omega
theorem sumV_range (a b : List Int) : ∀ k, 0 ≤ sumV a b k ∧ sumV a b k ≤ 9223372036854775807
  | 0 => ⟨Int.le_refl _, by show (0 : Int) ≤ _; omega⟩
  | k + 1 => addV_range (sumV_range a b k) (by have := sq_range (a.getD k 0 - b.getD k 0); unfold dV; omega)
theorem cntV_range (a b : List Int) : ∀ k, 0 ≤ cntV a b k ∧ cntV a b k ≤ k
  | 0 => ⟨Int.le_refl _, Int.le_refl _⟩
  | k + 1 => by
    have := cntV_range a b k
    unfold cntV
    split <;> omega
def okS (x : Int) : Prop := -2147483648 ≤ x ∧ x ≤ 2147483647
instance (x : Int) : Decidable (okS x) := by unfold okS; infer_instance
def okB (a b : List Int) (k : Nat) : Bool := decide (okS (a.getD k 0) ∧ okS (b.getD k 0))
theorem pos_both (d : Int) : (0 < absV d) ↔ (0 < holdV d) := by
  unfold absV holdV
  repeat' split
  all_goals omega
theorem law_loop (a b : List Int) (n m : Nat) (ha : a.length = n) (hb : b.length = m) (hn : n ≤ 100) (hm : m ≤ 100) :
    (L5_0 (0, [.n n, .n m, .i 0, .i 0, .i 0, .i 0, .l a, .l b]) = some (0, [.n n, .n m, .i (farV a b (min n m)), .i (cntV a b (min n m)), .i (sumV a b (min n m)), .l a, .l b]) ∧ ∀ k, k < min n m → okB a b k = true) ∨ L5_0 (0, [.n n, .n m, .i 0, .i 0, .i 0, .i 0, .l a, .l b]) = some (1, [.b true, .l a, .l b]) := by
  refine loopL_all (m := 5) (f := f5_0) (fun k => [.n n, .n m, .i (farV a b k), .i (cntV a b k), .i (sumV a b k), .i k, .l a, .l b]) (okB a b) (by omega) (min n m) (fun k hk hp => ?_) (fun k hk hp => ?_) (fun _ => ?_) (by omega)
  · have hx := get_some (l := a) (i := k) (by omega)
    have hy := get_some (l := b) (i := k) (by omega)
    have e1 : farV a b (k + 1) = if farV a b k < dV a b k then dV a b k else farV a b k := rfl
    have e2 : cntV a b (k + 1) = if 0 < dV a b k then cntV a b k + 1 else cntV a b k := rfl
    have e3 : sumV a b (k + 1) = addV (sumV a b k) (dV a b k * dV a b k) := rfl
    have hsr := sumV_range a b k
    have hcr := cntV_range a b k
    rw [e1, e2, e3]
    unfold okB at hp
    have hp := of_decide_eq_true hp
    unfold okS at hp
    unfold dV
    generalize a.getD k 0 = x at *
    generalize b.getD k 0 = y at *
    have hd : In64 (x - y) := by unfold In64; omega
    have hq := sq_range (x - y)
    have w0 : IntKind.i64.wrap (x - y) = x - y := wrap64 (by omega) (by omega)
    have w1 : IntKind.i64.wrap (holdV (x - y) * holdV (x - y)) = holdV (x - y) * holdV (x - y) := wrap64 (by omega) (by omega)
    have w2 : IntKind.i64.wrap ((k : Int) + 1) = ((k + 1 : Nat) : Int) := wrap_nat (n := k + 1) (by omega)
    have w3 : IntKind.i64.wrap (cntV a b k + 1) = cntV a b k + 1 := wrap64 (by omega) (by omega)
    have s := add13 (sumV a b k) (holdV (x - y) * holdV (x - y)) hsr (by omega)
    have hh := hold12 (x - y) hd
    have k1 : (k : Int) < n := by omega
    have k2 : (k : Int) < m := by omega
    have k3 : (0 : Int) ≤ k ∧ (k : Int) < n := by omega
    have k4 : (0 : Int) ≤ k ∧ (k : Int) < m := by omega
    generalize holdV (x - y) = d at *
    simp -implicitDefEqProofs only [f5_0, f5_0_0, asI_i, asL_l, asN_n, asE_nil, Bool.cond_decide, if_pos k1, if_pos k2, if_pos k3, if_pos k4, Int.toNat_natCast, hx, hy, optK_some, if_neg (show ¬ x < -2147483648 by omega), if_neg (show ¬ 2147483647 < x by omega), if_neg (show ¬ y < -2147483648 by omega), if_neg (show ¬ 2147483647 < y by omega), w0, hh, altK_0, w1, w2, w3, s]
    by_cases c1 : 0 < d
    · by_cases c2 : farV a b k < d
      · simp only [if_pos c1, if_pos c2]
      · simp only [if_pos c1, if_neg c2]
    · by_cases c2 : farV a b k < d
      · simp only [if_neg c1, if_pos c2]
      · simp only [if_neg c1, if_neg c2]
  · have hx := get_some (l := a) (i := k) (by omega)
    have hy := get_some (l := b) (i := k) (by omega)
    unfold okB at hp
    have hp := of_decide_eq_false hp
    unfold okS at hp
    generalize a.getD k 0 = x at *
    generalize b.getD k 0 = y at *
    have k1 : (k : Int) < n := by omega
    have k2 : (k : Int) < m := by omega
    have k3 : (0 : Int) ≤ k ∧ (k : Int) < n := by omega
    have k4 : (0 : Int) ≤ k ∧ (k : Int) < m := by omega
    simp -implicitDefEqProofs only [f5_0, f5_0_0, asI_i, asL_l, asN_n, asB_b, asE_nil, Bool.cond_decide, if_pos k1, if_pos k2, if_pos k3, if_pos k4, Int.toNat_natCast, hx, hy, optK_some, awakeL_ok, altK_0]
    by_cases q1 : x < -2147483648
    · rw [if_pos q1]
    rw [if_neg q1]
    by_cases q2 : 2147483647 < x
    · rw [if_pos q2]
    rw [if_neg q2]
    by_cases q3 : y < -2147483648
    · rw [if_pos q3]
    rw [if_neg q3, if_pos (by omega)]
  · simp -implicitDefEqProofs only [f5_0, f5_0_0, asI_i, asL_l, asN_n, asB_b, asE_nil, Bool.cond_decide]
    by_cases q1 : ((min n m : Nat) : Int) < n
    · rw [if_pos q1, if_neg (by omega)]
    · rw [if_neg q1]
theorem min_if (n m : Nat) : (if (m : Int) < (n : Int) then (m : Int) else (n : Int)) = ((min n m : Nat) : Int) := by split <;> omega
theorem unlike_ok (a b : List Int) (n m : Nat) (ha : a.length = n) (hb : b.length = m) (hn : n ≤ 100) (hm : m ≤ 100) (hg : ∀ k, k < min n m → okB a b k = true) :
    g14 (0, [.n n, .n m, .l a, .l b]) = some (0, [.i (farV a b (min n m)), .i (cntV a b (min n m)), .i (sumV a b (min n m)), .l a, .l b]) := by
  have hl : L14_0 (0, [.n n, .n m, .i 0, .i 0, .i 0, .i (min n m : Nat), .i 0, .l a, .l b]) = some (0, [.i (farV a b (min n m)), .i (cntV a b (min n m)), .i (sumV a b (min n m)), .l a, .l b]) := by
    refine loopL_run (m := 5) (f := f14_0) (fun k => (0, [.n n, .n m, .i (farV a b k), .i (cntV a b k), .i (sumV a b k), .i (min n m : Nat), .i k, .l a, .l b])) (min n m) (fun k hk => ⟨?_, by show 0 < 5; omega⟩) ?_ (by omega)
    · have hx := get_some (l := a) (i := k) (by omega)
      have hy := get_some (l := b) (i := k) (by omega)
      have e1 : farV a b (k + 1) = if dV a b k > farV a b k then dV a b k else farV a b k := rfl
      have e2 : cntV a b (k + 1) = if 0 < dV a b k then cntV a b k + 1 else cntV a b k := rfl
      have e3 : sumV a b (k + 1) = addV (sumV a b k) (dV a b k * dV a b k) := rfl
      have hsr := sumV_range a b k
      have hcr := cntV_range a b k
      have hp := hg k hk
      rw [e1, e2, e3]
      unfold okB at hp
      have hp := of_decide_eq_true hp
      unfold okS at hp
      unfold dV
      generalize a.getD k 0 = x at *
      generalize b.getD k 0 = y at *
      have hd : In64 (x - y) := by unfold In64; omega
      have hq := sq_range (x - y)
      have w0 : IntKind.i64.wrap (x - y) = x - y := wrap64 (by omega) (by omega)
      have w1 : IntKind.i64.wrap (holdV (x - y) * holdV (x - y)) = holdV (x - y) * holdV (x - y) := wrap64 (by omega) (by omega)
      have w2 : IntKind.i64.wrap ((k : Int) + 1) = ((k + 1 : Nat) : Int) := wrap_nat (n := k + 1) (by omega)
      have w3 : IntKind.i64.wrap (cntV a b k + 1) = cntV a b k + 1 := wrap64 (by omega) (by omega)
      have s := sum24 (sumV a b k) (holdV (x - y) * holdV (x - y)) hsr (by omega)
      have hh := abs17 (x - y) hd
      have hc := clamp23 (x - y) hd
      have hpos := pos_both (x - y)
      have k1 : (k : Int) < ((min n m : Nat) : Int) := by omega
      have k3 : (0 : Int) ≤ k ∧ (k : Int) < n := by omega
      have k4 : (0 : Int) ≤ k ∧ (k : Int) < m := by omega
      generalize holdV (x - y) = d at *
      generalize absV (x - y) = ab at *
      by_cases c1 : 0 < d
      · simp -implicitDefEqProofs only [f14_0, f14_0_0, asI_i, asL_l, asN_n, asE_nil, Bool.cond_decide, if_pos k1, if_pos k3, if_pos k4, Int.toNat_natCast, hx, hy, optK_some, w0, hh, hc, altK_0, w1, w2, w3, s, if_pos c1, if_pos (hpos.2 c1)]
      · simp -implicitDefEqProofs only [f14_0, f14_0_0, asI_i, asL_l, asN_n, asE_nil, Bool.cond_decide, if_pos k1, if_pos k3, if_pos k4, Int.toNat_natCast, hx, hy, optK_some, w0, hh, hc, altK_0, w1, w2, w3, s, if_neg c1, if_neg (fun h => c1 (hpos.1 h))]
    · simp -implicitDefEqProofs only [f14_0, f14_0_0, asI_i, asL_l, asN_n, asB_b, asE_nil, Bool.cond_decide, if_neg (Int.lt_irrefl _)]
  simp -implicitDefEqProofs only [g14, g14_0, asN_n, asL_l, asI_i, asE_nil, min_if, hl, altK_0]
theorem unlike_ll (a b : List Int) (n m : Nat) (ha : a.length = n) (hb : b.length = m) : g5 (0, [.n n, .n m, .l a, .l b]) = some (0, [.b true, .l a, .l b]) := by
  simp -implicitDefEqProofs only [g5, g5_0, asN_n, asL_l, asI_i, asB_b, asE_nil, Bool.cond_decide, awakeL_ok, altK_0]
  by_cases q1 : (100 : Int) < n
  · rw [if_pos q1]
  rw [if_neg q1]
  by_cases q2 : (100 : Int) < m
  · rw [if_pos q2]
  rw [if_neg q2]
  rcases law_loop a b n m ha hb (by omega) (by omega) with ⟨e, h⟩ | e
  · rw [e, altK_0]
    simp -implicitDefEqProofs only [asN_n, asL_l, asI_i, asB_b, asE_nil, unlike_ok a b n m ha hb (by omega) (by omega) h, altK_0, if_true]
  · rw [e, altK_1]
    simp -implicitDefEqProofs only [asN_n, asL_l, asI_i, asB_b, asE_nil]
theorem unlike_nl (b : List Int) (m : Nat) : g5 (1, [.n m, .l b]) = some (1, [.b true, .l b]) := by
  have e1 : L5_0 (1, [.n m, .i 0, .i 0, .i 0, .i 0, .l b]) = some (2, [.n m, .i 0, .i 0, .i 0, .l b]) := loopL_last (m := 5) (f := f5_0) (j := 2) (by simp -implicitDefEqProofs only [f5_0, f5_0_1, asI_i, asL_l, asN_n, asE_nil, Bool.cond_decide, if_neg (Int.lt_irrefl _)])
  have e2 : L14_0 (1, [.n m, .i 0, .i 0, .i 0, .i 0, .i 0, .l b]) = some (1, [.i 0, .i 0, .i 0, .l b]) := loopL_last (m := 5) (f := f14_0) (j := 1) (by simp -implicitDefEqProofs only [f14_0, f14_0_1, asI_i, asL_l, asN_n, asE_nil, Bool.cond_decide, if_neg (Int.lt_irrefl _)])
  have e3 : g14 (1, [.n m, .l b]) = some (3, [.i 0, .i 0, .i 0, .l b]) := by
    simp -implicitDefEqProofs only [g14, g14_1, asN_n, asL_l, asI_i, asE_nil, if_neg (show ¬ (m : Int) < 0 by omega), e2, altK_1]
  simp -implicitDefEqProofs only [g5, g5_1, asN_n, asL_l, asI_i, asB_b, asE_nil, Bool.cond_decide, awakeL_ok, altK_0, e1, altK_2, e3, altK_3, if_true]
  split <;> rfl
theorem unlike_ln (a : List Int) (n : Nat) : g5 (2, [.n n, .l a]) = some (1, [.b true, .l a]) := by
  have e1 : L5_0 (2, [.n n, .i 0, .i 0, .i 0, .i 0, .l a]) = some (3, [.n n, .i 0, .i 0, .i 0, .l a]) := loopL_last (m := 5) (f := f5_0) (j := 3) (by
    simp -implicitDefEqProofs only [f5_0, f5_0_2, asI_i, asL_l, asN_n, asE_nil, Bool.cond_decide, if_neg (Int.lt_irrefl 0)]
    split <;> rfl)
  have m0 : (if (0 : Int) < n then (0 : Int) else (n : Int)) = 0 := by split <;> omega
  have e2 : L14_0 (2, [.n n, .i 0, .i 0, .i 0, .i 0, .i 0, .l a]) = some (1, [.i 0, .i 0, .i 0, .l a]) := loopL_last (m := 5) (f := f14_0) (j := 1) (by simp -implicitDefEqProofs only [f14_0, f14_0_2, asI_i, asL_l, asN_n, asE_nil, Bool.cond_decide, if_neg (Int.lt_irrefl _)])
  have e3 : g14 (2, [.n n, .l a]) = some (3, [.i 0, .i 0, .i 0, .l a]) := by
    simp -implicitDefEqProofs only [g14, g14_2, asN_n, asL_l, asI_i, asE_nil, m0, e2, altK_1]
  simp -implicitDefEqProofs only [g5, g5_2, asN_n, asL_l, asI_i, asB_b, asE_nil, Bool.cond_decide, awakeL_ok, altK_0, e1, e3, altK_3, if_true]
  split <;> rfl
theorem unlike_dl (b : List Int) (m : Nat) : g5 (3, [.n 0, .n m, .l b]) = some (2, [.b true, .l b]) := by
  have z : ((0 : Nat) : Int) = 0 := rfl
  have e1 : L5_0 (3, [.n 0, .n m, .i 0, .i 0, .i 0, .i 0, .l b]) = some (5, [.n 0, .n m, .i 0, .i 0, .i 0, .l b]) := loopL_last (m := 5) (f := f5_0) (j := 5) (by simp -implicitDefEqProofs only [f5_0, f5_0_3, asI_i, asL_l, asN_n, asE_nil, Bool.cond_decide, z, if_neg (Int.lt_irrefl _)])
  have m0 : (if (m : Int) < (0 : Int) then (m : Int) else (0 : Int)) = 0 := by split <;> omega
  have e2 : L14_0 (3, [.n 0, .n m, .i 0, .i 0, .i 0, .i 0, .i 0, .l b]) = some (2, [.i 0, .i 0, .i 0, .l b]) := loopL_last (m := 5) (f := f14_0) (j := 2) (by simp -implicitDefEqProofs only [f14_0, f14_0_3, asI_i, asL_l, asN_n, asE_nil, Bool.cond_decide, z, if_neg (Int.lt_irrefl _)])
  have e3 : g14 (3, [.n 0, .n m, .l b]) = some (1, [.i 0, .i 0, .i 0, .l b]) := by
    simp -implicitDefEqProofs only [g14, g14_3, asN_n, asL_l, asI_i, asE_nil, z, m0, e2, altK_2]
  simp -implicitDefEqProofs only [g5, g5_3, asN_n, asL_l, asI_i, asB_b, asE_nil, Bool.cond_decide, awakeL_ok, altK_0, altK_1, z, if_neg (show ¬ (100 : Int) < 0 by omega), e1, altK_5, e3, if_true]
  split <;> rfl
theorem unlike_ld (a : List Int) (n : Nat) : g5 (4, [.n n, .n 0, .l a]) = some (3, [.b true, .l a]) := by
  have z : ((0 : Nat) : Int) = 0 := rfl
  have e1 : L5_0 (4, [.n n, .n 0, .i 0, .i 0, .i 0, .i 0, .l a]) = some (6, [.n n, .n 0, .i 0, .i 0, .i 0, .l a]) := loopL_last (m := 5) (f := f5_0) (j := 6) (by
    simp -implicitDefEqProofs only [f5_0, f5_0_4, asI_i, asL_l, asN_n, asE_nil, Bool.cond_decide, z, if_neg (Int.lt_irrefl 0)]
    split <;> rfl)
  have m0 : (if (0 : Int) < n then (0 : Int) else (n : Int)) = 0 := by split <;> omega
  have e2 : L14_0 (4, [.n n, .n 0, .i 0, .i 0, .i 0, .i 0, .i 0, .l a]) = some (3, [.i 0, .i 0, .i 0, .l a]) := loopL_last (m := 5) (f := f14_0) (j := 3) (by simp -implicitDefEqProofs only [f14_0, f14_0_4, asI_i, asL_l, asN_n, asE_nil, Bool.cond_decide, z, if_neg (Int.lt_irrefl _)])
  have e3 : g14 (4, [.n n, .n 0, .l a]) = some (2, [.i 0, .i 0, .i 0, .l a]) := by
    simp -implicitDefEqProofs only [g14, g14_4, asN_n, asL_l, asI_i, asE_nil, z, m0, e2, altK_3]
  simp -implicitDefEqProofs only [g5, g5_4, asN_n, asL_l, asI_i, asB_b, asE_nil, Bool.cond_decide, awakeL_ok, altK_0, altK_2, z, if_neg (show ¬ (100 : Int) < 0 by omega), e1, altK_6, e3, if_true]
  split <;> rfl
theorem ev_ll (a b : List Int) (n m : Nat) (ha : a.length = n * 1) (hb : b.length = m * 1) : ∃ d, evF tab d 5 [.slice 0 0 n 1, .slice 1 0 m 1] [⟨false, .ints .i64 a⟩, ⟨false, .ints .i64 b⟩] = some (.bool true, [⟨false, .ints .i64 a⟩, ⟨false, .ints .i64 b⟩], []) :=
  ⟨_, (ok5 0).ret (i := 0) (ls := [.n n, .n m, .l a, .l b]) (j := 0) (r := [.b true, .l a, .l b]) (unlike_ll a b n m (by omega) (by omega)) rfl rfl rfl rfl⟩
theorem ev_nl (b : List Int) (m : Nat) : ∃ d, evF tab d 5 [.nils, .slice 0 0 m 1] [⟨false, .ints .i64 b⟩] = some (.bool true, [⟨false, .ints .i64 b⟩], []) :=
  ⟨_, (ok5 0).ret (i := 1) (ls := [.n m, .l b]) (j := 1) (r := [.b true, .l b]) (unlike_nl b m) rfl rfl rfl rfl⟩
theorem ev_ln (a : List Int) (n : Nat) : ∃ d, evF tab d 5 [.slice 0 0 n 1, .nils] [⟨false, .ints .i64 a⟩] = some (.bool true, [⟨false, .ints .i64 a⟩], []) :=
  ⟨_, (ok5 0).ret (i := 2) (ls := [.n n, .l a]) (j := 1) (r := [.b true, .l a]) (unlike_ln a n) rfl rfl rfl rfl⟩
theorem ev_dl (b : List Int) (m : Nat) : ∃ d, evF tab d 5 [.slice 0 0 0 1, .slice 1 0 m 1] [⟨true, .unk⟩, ⟨false, .ints .i64 b⟩] = some (.bool true, [⟨true, .unk⟩, ⟨false, .ints .i64 b⟩], []) :=
  ⟨_, (ok5 0).ret (i := 3) (ls := [.n 0, .n m, .l b]) (j := 2) (r := [.b true, .l b]) (unlike_dl b m) rfl rfl rfl rfl⟩
theorem ev_ld (a : List Int) (n : Nat) : ∃ d, evF tab d 5 [.slice 0 0 n 1, .slice 1 0 0 1] [⟨false, .ints .i64 a⟩, ⟨true, .unk⟩] = some (.bool true, [⟨false, .ints .i64 a⟩, ⟨true, .unk⟩], []) :=
  ⟨_, (ok5 0).ret (i := 4) (ls := [.n n, .n 0, .l a]) (j := 3) (r := [.b true, .l a]) (unlike_ld a n) rfl rfl rfl rfl⟩
theorem ev_nn : evF tab 30 5 [.nils, .nils] [] = some (.bool true, [], []) := by kernel_rfl
theorem ev_nd : evF tab 30 5 [.nils, .slice 0 0 0 1] [⟨true, .unk⟩] = some (.bool true, [⟨true, .unk⟩], []) := by kernel_rfl
theorem ev_dn : evF tab 30 5 [.slice 0 0 0 1, .nils] [⟨true, .unk⟩] = some (.bool true, [⟨true, .unk⟩], []) := by kernel_rfl
theorem ev_dd : evF tab 30 5 [.slice 0 0 0 1, .slice 1 0 0 1] [⟨true, .unk⟩, ⟨true, .unk⟩] = some (.bool true, [⟨true, .unk⟩, ⟨true, .unk⟩], []) := by kernel_rfl
end Go.Proofs.Ytmghafpbaigkaaa
