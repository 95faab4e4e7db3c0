/-
  Numbers divided by powers of two, to the nearest. Conditions: none.
-/
import Derived.Test.YtmankoejlflhmaaDecA
import Derived.KernelRfl
namespace Go.Proofs.Ytmankoejlflhmaa
open Go Go.Sx
set_option maxRecDepth 100000
set_option linter.unusedVariables false
attribute [local simp] asI_i asB_b asL_l asN_n asS_s asE_nil altK_none altK_0 altK_1 altK_2 altK_3 optK_some optK_none Bool.cond_decide Bool.cond_not Int.toNat_natCast
set_option linter.unusedSimpArgs false
theorem pow_le62 {n : Nat} (h : n ≤ 62) : (1 : Int) ≤ ((2 ^ n : Nat) : Int) ∧ ((2 ^ n : Nat) : Int) ≤ 4611686018427387904 := by
  have h1 : 2 ^ n ≤ 2 ^ 62 := Nat.pow_le_pow_right (by omega) h
  have h2 : 0 < 2 ^ n := Nat.pow_pos (by omega)
  have h3 : (2 : Nat) ^ 62 = 4611686018427387904 := by decide
  rw [h3] at h1
  generalize (2 : Nat) ^ n = x at *
  omega
theorem powI (n : Nat) : ((2 : Int) ^ n) = ((2 ^ n : Nat) : Int) := by simp
theorem shl_one (n : Nat) (h : n ≤ 62) : shlI .i64 1 n = ((2 ^ n : Nat) : Int) := by
  have hm : min n 64 = n := by omega
  have hp := pow_le62 h
  unfold shlI
  simp only [Int.toNat_natCast, IntKind.bits, hm, Int.one_mul, powI]
  exact wrap64 (by omega) (by omega)
theorem shl_neg (n : Nat) (h : n ≤ 62) : shlI .i64 (-1) n = -((2 ^ n : Nat) : Int) := by
  have hm : min n 64 = n := by omega
  have hp := pow_le62 h
  unfold shlI
  simp only [Int.toNat_natCast, IntKind.bits, hm, powI]
  rw [wrap64 (by omega) (by omega)]
  omega
/-- What a division by P leaves. -/
theorem parts {v P : Int} (hP : 1 ≤ P) (hv : -9223372036854775808 ≤ v ∧ v ≤ 9223372036854775807) : v = P * Int.tdiv v P + Int.tmod v P ∧ -P < Int.tmod v P ∧ Int.tmod v P < P ∧ -9223372036854775808 ≤ Int.tdiv v P ∧ Int.tdiv v P ≤ 9223372036854775807 ∧ (2 ≤ P → -4611686018427387904 ≤ Int.tdiv v P ∧ Int.tdiv v P ≤ 4611686018427387904) := by
  have e := Int.mul_tdiv_add_tmod v P
  have a1 := Int.tmod_lt_of_pos v (show 0 < P by omega)
  have a2 : -P < Int.tmod v P := by
    have := Int.lt_tmod_of_pos v (show 0 < P by omega)
    exact this
  refine ⟨e.symm, a2, a1, ?_⟩
  have key : ∀ q r : Int, P * q + r = v → -P < r → r < P → -9223372036854775808 ≤ q ∧ q ≤ 9223372036854775807 ∧ (2 ≤ P → -4611686018427387904 ≤ q ∧ q ≤ 4611686018427387904) := by
    intro q r h h1 h2
    have up : ∀ B : Int, 0 ≤ B → B < q → P * (B + 1) ≤ P * q := fun B _ hB => Int.mul_le_mul_of_nonneg_left (by omega) (by omega)
    have lo : ∀ B : Int, q < B → P * q ≤ P * (B - 1) := fun B hB => Int.mul_le_mul_of_nonneg_left (by omega) (by omega)
    refine ⟨?_, ?_, fun h2P => ⟨?_, ?_⟩⟩
    · refine Int.not_lt.1 fun hh => ?_
      have := lo _ hh
      have e2 : P * (-9223372036854775808 - 1) = -(9223372036854775809 * P) := by omega
      omega
    · refine Int.not_lt.1 fun hh => ?_
      have := up _ (by omega) hh
      have e2 : P * (9223372036854775807 + 1) = 9223372036854775808 * P := by omega
      omega
    · refine Int.not_lt.1 fun hh => ?_
      have := lo _ hh
      have e2 : P * (-4611686018427387904 - 1) = -(4611686018427387905 * P) := by omega
      omega
    · refine Int.not_lt.1 fun hh => ?_
      have := up _ (by omega) hh
      have e2 : P * (4611686018427387904 + 1) = 4611686018427387905 * P := by omega
      omega
  exact key _ _ e a2 a1
theorem near_ok (v : Int) (n : Nat) (hn : n ≤ 62) (hv : -9223372036854775808 ≤ v ∧ v ≤ 9223372036854775807) : g21 (0, [.i v, .i n]) = some (0, [.i (if n = 0 then v else if ((2 ^ (n - 1) : Nat) : Int) ≤ Int.tmod v ((2 ^ n : Nat) : Int) then Int.tdiv v ((2 ^ n : Nat) : Int) + 1 else if Int.tmod v ((2 ^ n : Nat) : Int) ≤ -((2 ^ (n - 1) : Nat) : Int) then Int.tdiv v ((2 ^ n : Nat) : Int) - 1 else Int.tdiv v ((2 ^ n : Nat) : Int))]) := by
  have hp := pow_le62 hn
  have hs := shl_one n hn
  obtain ⟨_, _, _, b1, b2, b3⟩ := parts hp.1 hv
  have h1 : ¬ (n : Int) < 0 := by omega
  have h2 : ¬ (62 : Int) < n := by omega
  have hP0 : ¬ ((2 ^ n : Nat) : Int) = 0 := by omega
  simp -implicitDefEqProofs only [g21, g21_0, asI_i, asE_nil, Bool.cond_decide, if_neg h1, if_neg h2, hs, if_neg hP0]
  by_cases h0 : n = 0
  · subst h0
    rw [if_pos rfl, if_pos (by rfl)]
    have : Int.tdiv v ((2 ^ 0 : Nat) : Int) = v := Int.tdiv_one v
    rw [this, wrap64 hv.1 hv.2]
  · have h3 : ¬ (n : Int) = 0 := by omega
    have w1 : IntKind.i64.wrap ((n : Int) - 1) = ((n - 1 : Nat) : Int) := by rw [wrap64 (by omega) (by omega)]; omega
    have h4 : ¬ ((n - 1 : Nat) : Int) < 0 := by omega
    have hs1 := shl_one (n - 1) (by omega)
    have hs2 := shl_neg (n - 1) (by omega)
    have h2P : 2 ≤ ((2 ^ n : Nat) : Int) := by
      have hq := pow_le62 (show n - 1 ≤ 62 by omega)
      have : 2 ^ n = 2 * 2 ^ (n - 1) := by rw [← Nat.pow_succ', Nat.succ_eq_add_one, Nat.sub_add_cancel (by omega)]
      omega
    have b := b3 h2P
    simp -implicitDefEqProofs only [if_neg h3, if_neg h0, w1, if_neg h4, hs1, hs2]
    generalize Int.tmod v ((2 ^ n : Nat) : Int) = r at *
    generalize Int.tdiv v ((2 ^ n : Nat) : Int) = q at *
    rw [wrap64 (x := q) (by omega) (by omega), wrap64 (x := q + 1) (by omega) (by omega), wrap64 (x := q - 1) (by omega) (by omega)]
    by_cases c1 : ((2 ^ (n - 1) : Nat) : Int) ≤ r
    · rw [if_pos c1, if_pos c1]
    · rw [if_neg c1, if_neg c1]
      by_cases c2 : r ≤ -((2 ^ (n - 1) : Nat) : Int)
      · rw [if_pos c2, if_pos c2]
      · rw [if_neg c2, if_neg c2]
end Go.Proofs.Ytmankoejlflhmaa
