/-
  The law of numbers divided by powers of two, in three ways. Conditions: none.
-/
import Derived.Test.YthgmblahjndpaaaDecA
import Derived.KernelRfl
namespace Go.Proofs.Ythgmblahjndpaaa
open Go Go.Sx
set_option maxRecDepth 100000
set_option linter.unusedVariables false
attribute [local simp] asI_i asB_b asL_l asN_n asS_s asE_nil altK_none altK_0 altK_1 altK_2 altK_3 optK_some optK_none Bool.cond_decide Bool.cond_not Int.toNat_natCast
set_option linter.unusedSimpArgs false
theorem pow_le62 {n : Nat} (h : n ≤ 62) : (1 : Int) ≤ ((2 ^ n : Nat) : Int) ∧ ((2 ^ n : Nat) : Int) ≤ 4611686018427387904 := by
  have h1 : 2 ^ n ≤ 2 ^ 62 := Nat.pow_le_pow_right (by omega) h
  have h2 : 0 < 2 ^ n := Nat.pow_pos (by omega)
  have h3 : (2 : Nat) ^ 62 = 4611686018427387904 := by decide
  rw [h3] at h1
  generalize (2 : Nat) ^ n = x at *
  omega
theorem powI (n : Nat) : ((2 : Int) ^ n) = ((2 ^ n : Nat) : Int) := by simp
theorem shl_one (n : Nat) (h : n ≤ 62) : shlI .i64 1 n = ((2 ^ n : Nat) : Int) := by
  have hm : min n 64 = n := by omega
  have hp := pow_le62 h
  unfold shlI
  simp only [Int.toNat_natCast, IntKind.bits, hm, Int.one_mul, powI]
  exact wrap64 (by omega) (by omega)
theorem shl_neg (n : Nat) (h : n ≤ 62) : shlI .i64 (-1) n = -((2 ^ n : Nat) : Int) := by
  have hm : min n 64 = n := by omega
  have hp := pow_le62 h
  unfold shlI
  simp only [Int.toNat_natCast, IntKind.bits, hm, powI]
  rw [wrap64 (by omega) (by omega)]
  omega
theorem shr_pow (v : Int) (n : Nat) (h : n ≤ 62) : shrI .i64 v n = v / ((2 ^ n : Nat) : Int) := by
  have hm : min n 64 = n := by omega
  have hp := pow_le62 h
  unfold shrI
  simp only [Int.toNat_natCast, IntKind.bits, hm, powI]
  exact Int.fdiv_eq_ediv_of_nonneg _ (by omega)
theorem and1 (a : Int) : bAnd .i64 a 1 = a % 2 := and_one a
theorem power_ok (n : Nat) (h : n ≤ 62) : g12 (0, [.i n]) = some (0, [.i (2 ^ n : Nat)]) := by
  have hl : L12_0 (0, [.i n, .i 1, .i 0]) = some (0, [.i (2 ^ n : Nat)]) := by
    refine loop1_run (fun k => [.i n, .i (2 ^ k : Nat), .i k]) n (fun k hk => ?_) ?_ (by omega)
    · have h1 : (k : Int) < n := by omega
      have hp := pow_le62 (show k + 1 ≤ 62 by omega)
      have hp2 : 2 ^ (k + 1) = 2 * 2 ^ k := by rw [Nat.pow_succ, Nat.mul_comm]
      have w1 : IntKind.i64.wrap (2 * ((2 ^ k : Nat) : Int)) = ((2 ^ (k + 1) : Nat) : Int) := by rw [wrap64 (by omega) (by omega)]; omega
      have w2 : IntKind.i64.wrap ((k : Int) + 1) = ((k + 1 : Nat) : Int) := by rw [wrap64 (by omega) (by omega)]; rfl
      simp only [f12_0, f12_0_0, asI_i, asE_nil, Bool.cond_decide, if_pos h1, w1, w2]
    · simp [f12_0, f12_0_0]
  simp -implicitDefEqProofs only [g12, g12_0, asI_i, asE_nil, hl, altK_0]
/-- What a division by P leaves. -/
theorem parts {v P : Int} (hP : 1 ≤ P) (hv : -9223372036854775808 ≤ v ∧ v ≤ 9223372036854775807) : v = P * Int.tdiv v P + Int.tmod v P ∧ -P < Int.tmod v P ∧ Int.tmod v P < P ∧ -9223372036854775808 ≤ Int.tdiv v P ∧ Int.tdiv v P ≤ 9223372036854775807 ∧ (2 ≤ P → -4611686018427387904 ≤ Int.tdiv v P ∧ Int.tdiv v P ≤ 4611686018427387904) := by
  have e := Int.mul_tdiv_add_tmod v P
  have a1 := Int.tmod_lt_of_pos v (show 0 < P by omega)
  have a2 : -P < Int.tmod v P := by
    have := Int.lt_tmod_of_pos v (show 0 < P by omega)
    exact this
  refine ⟨e.symm, a2, a1, ?_⟩
  have key : ∀ q r : Int, P * q + r = v → -P < r → r < P → -9223372036854775808 ≤ q ∧ q ≤ 9223372036854775807 ∧ (2 ≤ P → -4611686018427387904 ≤ q ∧ q ≤ 4611686018427387904) := by
    intro q r h h1 h2
    have up : ∀ B : Int, 0 ≤ B → B < q → P * (B + 1) ≤ P * q := fun B _ hB => Int.mul_le_mul_of_nonneg_left (by omega) (by omega)
    have lo : ∀ B : Int, q < B → P * q ≤ P * (B - 1) := fun B hB => Int.mul_le_mul_of_nonneg_left (by omega) (by omega)
    refine ⟨?_, ?_, fun h2P => ⟨?_, ?_⟩⟩
    · refine Int.not_lt.1 fun hh => ?_
      have := lo _ hh
      have e2 : P * (-9223372036854775808 - 1) = -(9223372036854775809 * P) := by omega
      omega
    · refine Int.not_lt.1 fun hh => ?_
      have := up _ (by omega) hh
      have e2 : P * (9223372036854775807 + 1) = 9223372036854775808 * P := by omega
      omega
    · refine Int.not_lt.1 fun hh => ?_
      have := lo _ hh
      have e2 : P * (-4611686018427387904 - 1) = -(4611686018427387905 * P) := by omega
      omega
    · refine Int.not_lt.1 fun hh => ?_
      have := up _ (by omega) hh
      have e2 : P * (4611686018427387904 + 1) = 4611686018427387905 * P := by omega
      omega
  exact key _ _ e a2 a1
theorem out_of (v k : Int) (h : k < 0 ∨ 62 < k) : g8 (0, [.i v, .i k]) = some (0, [.i 0]) ∧ g9 (0, [.i v, .i k]) = some (0, [.i 0]) ∧ g10 (0, [.i v, .i k]) = some (0, [.i 0]) := by
  simp only [g8, g8_0, g9, g9_0, g10, g10_0, asI_i, asE_nil, Bool.cond_decide]
  by_cases h1 : k < 0
  · simp only [if_pos h1, and_self]
  · have h2 : 62 < k := by omega
    simp only [if_neg h1, if_pos h2, and_self]
theorem cut_ok (v : Int) (n : Nat) (hn : n ≤ 62) (hv : -9223372036854775808 ≤ v ∧ v ≤ 9223372036854775807) : g10 (0, [.i v, .i n]) = some (0, [.i (Int.tdiv v ((2 ^ n : Nat) : Int))]) := by
  have hp := pow_le62 hn
  have hs := shl_one n hn
  obtain ⟨_, _, _, b1, b2, _⟩ := parts hp.1 hv
  have h1 : ¬ (n : Int) < 0 := by omega
  have h2 : ¬ (62 : Int) < n := by omega
  simp -implicitDefEqProofs only [g10, g10_0, asI_i, asE_nil, Bool.cond_decide, if_neg h1, if_neg h2]
  rw [hs]
  generalize ((2 ^ n : Nat) : Int) = P at *
  rw [if_neg (by omega), wrap64 b1 b2]
theorem near_ok (v : Int) (n : Nat) (hn : n ≤ 62) (hv : -9223372036854775808 ≤ v ∧ v ≤ 9223372036854775807) : g9 (0, [.i v, .i n]) = some (0, [.i (if n = 0 then v else if ((2 ^ (n - 1) : Nat) : Int) ≤ Int.tmod v ((2 ^ n : Nat) : Int) then Int.tdiv v ((2 ^ n : Nat) : Int) + 1 else if Int.tmod v ((2 ^ n : Nat) : Int) ≤ -((2 ^ (n - 1) : Nat) : Int) then Int.tdiv v ((2 ^ n : Nat) : Int) - 1 else Int.tdiv v ((2 ^ n : Nat) : Int))]) := by
  have hp := pow_le62 hn
  have hs := shl_one n hn
  obtain ⟨_, _, _, b1, b2, b3⟩ := parts hp.1 hv
  have h1 : ¬ (n : Int) < 0 := by omega
  have h2 : ¬ (62 : Int) < n := by omega
  have hP0 : ¬ ((2 ^ n : Nat) : Int) = 0 := by omega
  simp -implicitDefEqProofs only [g9, g9_0, asI_i, asE_nil, Bool.cond_decide, if_neg h1, if_neg h2, hs, if_neg hP0]
  by_cases h0 : n = 0
  · subst h0
    rw [if_pos rfl, if_pos (by rfl)]
    have : Int.tdiv v ((2 ^ 0 : Nat) : Int) = v := Int.tdiv_one v
    rw [this, wrap64 hv.1 hv.2]
  · have h3 : ¬ (n : Int) = 0 := by omega
    have w1 : IntKind.i64.wrap ((n : Int) - 1) = ((n - 1 : Nat) : Int) := by rw [wrap64 (by omega) (by omega)]; omega
    have h4 : ¬ ((n - 1 : Nat) : Int) < 0 := by omega
    have hs1 := shl_one (n - 1) (by omega)
    have hs2 := shl_neg (n - 1) (by omega)
    have h2P : 2 ≤ ((2 ^ n : Nat) : Int) := by
      have hq := pow_le62 (show n - 1 ≤ 62 by omega)
      have : 2 ^ n = 2 * 2 ^ (n - 1) := by rw [← Nat.pow_succ', Nat.succ_eq_add_one, Nat.sub_add_cancel (by omega)]
      omega
    have b := b3 h2P
    simp -implicitDefEqProofs only [if_neg h3, if_neg h0, w1, if_neg h4, hs1, hs2]
    generalize Int.tmod v ((2 ^ n : Nat) : Int) = r at *
    generalize Int.tdiv v ((2 ^ n : Nat) : Int) = q at *
    rw [wrap64 (x := q) (by omega) (by omega), wrap64 (x := q + 1) (by omega) (by omega), wrap64 (x := q - 1) (by omega) (by omega)]
    by_cases c1 : ((2 ^ (n - 1) : Nat) : Int) ≤ r
    · rw [if_pos c1, if_pos c1]
    · rw [if_neg c1, if_neg c1]
      by_cases c2 : r ≤ -((2 ^ (n - 1) : Nat) : Int)
      · rw [if_pos c2, if_pos c2]
      · rw [if_neg c2, if_neg c2]
theorem rnd_ok (v : Int) (n : Nat) (hn : n ≤ 62) (hv : -9223372036854775808 ≤ v ∧ v ≤ 9223372036854775807) : g8 (0, [.i v, .i n]) = some (0, [.i (if n = 0 then v else if ((2 ^ (n - 1) : Nat) : Int) ≤ Int.tmod v ((2 ^ n : Nat) : Int) then Int.tdiv v ((2 ^ n : Nat) : Int) + 1 else if Int.tmod v ((2 ^ n : Nat) : Int) < -((2 ^ (n - 1) : Nat) : Int) then Int.tdiv v ((2 ^ n : Nat) : Int) - 1 else Int.tdiv v ((2 ^ n : Nat) : Int))]) := by
  have hp := pow_le62 hn
  obtain ⟨e, r1, r2, b1, b2, b3⟩ := parts hp.1 hv
  have h1 : ¬ (n : Int) < 0 := by omega
  have h2 : ¬ (62 : Int) < n := by omega
  simp -implicitDefEqProofs only [g8, g8_0, asI_i, asE_nil, Bool.cond_decide, if_neg h1, if_neg h2]
  by_cases h0 : n = 0
  · subst h0
    rw [if_pos rfl, if_pos (by rfl)]
  · have h3 : ¬ (n : Int) = 0 := by omega
    have w1 : IntKind.i64.wrap ((n : Int) - 1) = ((n - 1 : Nat) : Int) := by rw [wrap64 (by omega) (by omega)]; omega
    have h4 : ¬ ((n - 1 : Nat) : Int) < 0 := by omega
    have hq := pow_le62 (show n - 1 ≤ 62 by omega)
    have hPH : ((2 ^ n : Nat) : Int) = 2 * ((2 ^ (n - 1) : Nat) : Int) := by
      have : 2 ^ n = 2 * 2 ^ (n - 1) := by rw [← Nat.pow_succ', Nat.succ_eq_add_one, Nat.sub_add_cancel (by omega)]
      omega
    have s1 := shr_pow v n hn
    have s2 := shr_pow v (n - 1) (by omega)
    have ra := round_arith hPH hq.1 e r1 r2
    have b := b3 (by omega)
    simp -implicitDefEqProofs only [if_neg h3, if_neg h0, w1, if_neg h4, s1, s2, and1, ra]
    generalize Int.tmod v ((2 ^ n : Nat) : Int) = r at *
    generalize Int.tdiv v ((2 ^ n : Nat) : Int) = q at *
    generalize ((2 ^ (n - 1) : Nat) : Int) = H at *
    congr 4
    split
    · exact wrap64 (by omega) (by omega)
    · split
      · exact wrap64 (by omega) (by omega)
      · exact wrap64 (by omega) (by omega)
theorem rounds_out (v k : Int) (h : k < 0 ∨ 62 < k) : g3 (0, [.i v, .i k]) = some (0, [.b true]) := by
  obtain ⟨e1, e2, e3⟩ := out_of v k h
  simp -implicitDefEqProofs only [g3, g3_0, asI_i, asB_b, asE_nil, Bool.cond_decide, e1, e2, e3, altK_0, if_true, awakeL_ok]
  by_cases h1 : k < 0
  · rw [if_pos h1]
  · rw [if_neg h1, if_pos (by omega)]
theorem rounds_in (v : Int) (n : Nat) (hn : n ≤ 62) (hv : -9223372036854775808 ≤ v ∧ v ≤ 9223372036854775807) : g3 (0, [.i v, .i n]) = some (0, [.b true]) := by
  have hp := pow_le62 hn
  obtain ⟨e, r1, r2, b1, b2, b3⟩ := parts hp.1 hv
  have h1 : ¬ (n : Int) < 0 := by omega
  have h2 : ¬ (62 : Int) < n := by omega
  have hP0 : ¬ ((2 ^ n : Nat) : Int) = 0 := by omega
  have c1 := cut_ok v n hn hv
  have c2 := near_ok v n hn hv
  have c3 := rnd_ok v n hn hv
  have c4 := power_ok n hn
  have w1 : IntKind.i64.wrap (Int.tdiv v ((2 ^ n : Nat) : Int)) = Int.tdiv v ((2 ^ n : Nat) : Int) := wrap64 b1 b2
  simp -implicitDefEqProofs only [g3, g3_0, asI_i, asB_b, asE_nil, Bool.cond_decide, if_neg h1, if_neg h2, c1, c2, c3, c4, altK_0, if_neg hP0, w1, if_true, awakeL_ok]
  by_cases h0 : n = 0
  · have hq : Int.tdiv v ((2 ^ n : Nat) : Int) = v := by subst h0; exact Int.tdiv_one v
    have hz : ¬ (0 : Int) < n := by omega
    simp -implicitDefEqProofs only [if_pos h0, if_neg hz, hq, if_true]
  · have hz : (0 : Int) < n := by omega
    have hq := pow_le62 (show n - 1 ≤ 62 by omega)
    have hPH : ((2 ^ n : Nat) : Int) = 2 * ((2 ^ (n - 1) : Nat) : Int) := by
      have : 2 ^ n = 2 * 2 ^ (n - 1) := by rw [← Nat.pow_succ', Nat.succ_eq_add_one, Nat.sub_add_cancel (by omega)]
      omega
    have b := b3 (by omega)
    have w2 : IntKind.i64.wrap (Int.tdiv ((2 ^ n : Nat) : Int) 2) = ((2 ^ (n - 1) : Nat) : Int) := by
      rw [Int.tdiv_eq_ediv_of_nonneg (by omega), wrap64 (by omega) (by omega)]
      omega
    have w3 : IntKind.i64.wrap (0 - ((2 ^ (n - 1) : Nat) : Int)) = -((2 ^ (n - 1) : Nat) : Int) := by rw [wrap64 (by omega) (by omega)]; omega
    simp -implicitDefEqProofs only [if_neg h0, if_pos hz, w2, w3]
    generalize Int.tmod v ((2 ^ n : Nat) : Int) = r at *
    generalize Int.tdiv v ((2 ^ n : Nat) : Int) = q at *
    generalize ((2 ^ (n - 1) : Nat) : Int) = H at *
    have w4 : IntKind.i64.wrap (q + 1) = q + 1 := wrap64 (by omega) (by omega)
    have w5 : IntKind.i64.wrap (q - 1) = q - 1 := wrap64 (by omega) (by omega)
    rw [w4, w5]
    repeat' split
    all_goals first
      | rfl
      | (exfalso; omega)
theorem rounds_ev (v k : Int) (w : (Lit.int .i64 v).wf = true) : ∃ d, evF tab d 3 [.int .i64 v, .int .i64 k] [] = some (.bool true, [], []) := by
  have h : g3 (0, [.i v, .i k]) = some (0, [.b true]) := by
    by_cases hk : k < 0 ∨ 62 < k
    · exact rounds_out v k hk
    · obtain ⟨n, rfl⟩ : ∃ n : Nat, k = n := ⟨k.toNat, by omega⟩
      exact rounds_in v n (by omega) (wf64 w)
  exact ⟨_, (ok3 0).ret (i := 0) (ls := [.i v, .i k]) (j := 0) (r := [.b true]) h rfl rfl rfl rfl⟩
end Go.Proofs.Ythgmblahjndpaaa
