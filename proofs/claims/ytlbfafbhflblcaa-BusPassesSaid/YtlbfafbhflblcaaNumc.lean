/-
  What the numbers' functions tell: held, without a sign, quotients downwards, what they ZfG, rounded by powers of two. Conditions: none.
-/
import Derived.Test.YtlbfafbhflblcaaDecP
import Derived.KernelRfl
namespace Go.Proofs.Ytlbfafbhflblcaa
open Go Go.Sx P
set_option maxRecDepth 100000
set_option linter.unusedVariables false
attribute [local simp] asI_i Zc Zd Zb ZQ Zj Zh Ze3 Za Zat Zk ZF Z0 Zag ZH Zau Bool.cond_decide Bool.cond_not Int.toNat_natCast
set_option linter.unusedSimpArgs false
def In64 (d : Int) : Prop := -9223372036854775808 ≤ d ∧ d ≤ 9223372036854775807
def absV (d : Int) : Int := if d = -9223372036854775808 then 9223372036854775807 else if d < 0 then 0 - d else d
theorem ZnJ (d : Int) (h : In64 d) : g29 (0, [.i d]) = some (0, [.i (absV d)]) := by
  unfold In64 at h
  simp -implicitDefEqProofs only [g29, g29_0, asI_i, Zc, Zd, Zb, I4, I8, I16, Za, Bool.cond_decide]
  unfold absV
  by_cases h1 : d = -9223372036854775808
  · rw [if_pos h1, if_pos h1]
  · rw [if_neg h1, if_neg h1]
    by_cases h2 : d < 0
    · rw [if_pos h2, if_pos h2, wrap64 (by omega) (by omega)]
    · rw [if_neg h2, if_neg h2]
def ZbS (x a b : Int) : Int := if x < a ∨ b < a then a else if b < x then b else x
theorem Zk6 {a b : Int} (h : a ≤ b) (x : Int) : a ≤ ZbS x a b ∧ ZbS x a b ≤ b := by
  unfold ZbS
  repeat' split
  all_goals omega
def satV (x : Int) : Int := ZbS x (-32768) 32767
theorem Zdx (x : Int) : -32768 ≤ satV x ∧ satV x ≤ 32767 := Zk6 (by omega) x
theorem Zgg (x a b : Int) : g40 (0, [.i x, .i a, .i b]) = some (0, [.i (ZbS x a b)]) := by
  simp -implicitDefEqProofs only [g40, g40_0, asI_i, Zc, Zd, Zb, I4, I8, I16, Za, Bool.cond_decide]
  unfold ZbS
  by_cases h1 : x < a
  · rw [if_pos h1, if_pos (Or.inl h1)]
  · rw [if_neg h1]
    by_cases h2 : b < a
    · rw [if_pos h2, if_pos (Or.inr h2)]
    · rw [if_neg h2, if_neg (show ¬ (x < a ∨ b < a) by omega)]
      by_cases h3 : b < x
      · rw [if_pos h3, if_pos h3]
      · rw [if_neg h3, if_neg h3]
theorem ZiS (x : Int) : g31 (0, [.i x]) = some (0, [.i (satV x)]) := by
  simp -implicitDefEqProofs only [g31, g31_0, asI_i, Zc, Zd, Zb, I4, I8, I16, Za, Zgg, Zk]
  rfl
theorem Zbx (a : Int) {b : Int} (hb : 1 ≤ b) : (if Int.tmod a b < 0 then Int.tdiv a b - 1 else Int.tdiv a b) = a / b := by
  rw [show a / b = a.fdiv b from (Int.fdiv_eq_ediv_of_nonneg _ (by omega)).symm]
  have h1 := Int.mul_tdiv_add_tmod a b
  have h2 := Int.tmod_lt_of_pos a (show 0 < b by omega)
  have h3 : -b < Int.tmod a b := Int.lt_tmod_of_pos a (by omega)
  rw [Int.fdiv_eq_ediv_of_nonneg _ (by omega)]
  generalize Int.tdiv a b = q at *
  generalize Int.tmod a b = r at *
  subst h1
  split
  · have e : b * q + r = (r + b) + b * (q - 1) := by rw [Int.mul_sub, Int.mul_one]; omega
    rw [e, Int.add_mul_ediv_left _ _ (by omega), Int.ediv_eq_zero_of_lt (by omega) (by omega)]
    omega
  · rw [Int.add_comm, Int.add_mul_ediv_left _ _ (by omega), Int.ediv_eq_zero_of_lt (by omega) (by omega)]
    omega
theorem Zk7 {a b : Int} (ha : In64 a) (hb : 1 ≤ b) : In64 (a / b) := by
  unfold In64 at *
  have h1 := Int.mul_ediv_add_emod a b
  have h2 := Int.emod_nonneg a (show b ≠ 0 by omega)
  have h3 := Int.emod_lt_of_pos a (show 0 < b by omega)
  generalize a / b = q at *
  generalize a % b = r at *
  constructor
  · refine Int.not_lt.1 fun h => ?_
    have := Int.mul_le_mul_of_nonneg_left (show q ≤ -9223372036854775809 by omega) (show 0 ≤ b by omega)
    omega
  · refine Int.not_lt.1 fun h => ?_
    have := Int.mul_le_mul_of_nonneg_left (show 9223372036854775808 ≤ q by omega) (show 0 ≤ b by omega)
    omega
theorem Zk8 {a b : Int} (ha : In64 a) (hb : 1 ≤ b) : In64 (Int.tdiv a b) ∧ (Int.tmod a b < 0 → -9223372036854775808 < Int.tdiv a b) := by
  have h := Zk7 ha hb
  have e := Zbx a hb
  have h1 := Int.mul_tdiv_add_tmod a b
  have h2 := Int.tmod_lt_of_pos a (show 0 < b by omega)
  have h3 : -b < Int.tmod a b := Int.lt_tmod_of_pos a (by omega)
  unfold In64 at *
  split at e
  · refine ⟨⟨by omega, ?_⟩, fun _ => by omega⟩
    refine Int.not_lt.1 fun hh => ?_
    have := Int.mul_le_mul_of_nonneg_left (show 9223372036854775808 ≤ Int.tdiv a b by omega) (show 0 ≤ b by omega)
    omega
  · exact ⟨by omega, fun _ => by omega⟩
theorem Zl5 (a b : Int) (ha : In64 a) (hb : 1 ≤ b) : g36 (0, [.i a, .i b]) = some (0, [.i (a / b)]) := by
  have hq := Zk8 ha hb
  have e := Zbx a hb
  unfold In64 at hq
  have w1 : IntKind.i64.wrap (Int.tdiv a b) = Int.tdiv a b := wrap64 (by omega) (by omega)
  rw [← e]
  simp -implicitDefEqProofs only [g36, g36_0, asI_i, Zc, Zd, Zb, I4, I8, I16, Za, Bool.cond_decide, if_neg (show ¬ b < 1 by omega), if_neg (show ¬ b = 0 by omega), w1]
  by_cases h : Int.tmod a b < 0
  · rw [if_pos h, if_pos h, wrap64 (by omega) (by omega)]
  · rw [if_neg h, if_neg h]
theorem Zgh {n : Nat} (h : n ≤ 62) : (1 : Int) ≤ ((2 ^ n : Nat) : Int) ∧ ((2 ^ n : Nat) : Int) ≤ 4611686018427387904 := by
  have h1 : 2 ^ n ≤ 2 ^ 62 := Nat.pow_le_pow_right (by omega) h
  have h2 : 0 < 2 ^ n := Nat.pow_pos (by omega)
  have h3 : (2 : Nat) ^ 62 = 4611686018427387904 := by decide
  rw [h3] at h1
  generalize (2 : Nat) ^ n = x at *
  omega
theorem powI (n : Nat) : ((2 : Int) ^ n) = ((2 ^ n : Nat) : Int) := by simp
theorem Zk9 (v : Int) (n : Nat) (h : n ≤ 62) : shrI .i64 v n = v / ((2 ^ n : Nat) : Int) := by
  have hm : min n 64 = n := by omega
  have hp := Zgh h
  unfold shrI
  simp only [Int.toNat_natCast, IntKind.bits, hm, powI]
  exact Int.fdiv_eq_ediv_of_nonneg _ (by omega)
theorem and1 (a : Int) : bAnd .i64 a 1 = a % 2 := ZmU a
theorem ZiT (v : Int) (n : Nat) (hn : 1 ≤ n ∧ n ≤ 62) (hv : In64 v) : g41 (0, [.i v, .i n]) = some (0, [.i (v / ((2 ^ n : Nat) : Int) + v / ((2 ^ (n - 1) : Nat) : Int) % 2)]) := by
  have hp := Zgh (show n ≤ 62 by omega)
  have hq := Zgh (show n - 1 ≤ 62 by omega)
  have h1 : ¬ (n : Int) < 0 := by omega
  have h2 : ¬ (62 : Int) < n := by omega
  have h3 : ¬ (n : Int) = 0 := by omega
  have h4 : ¬ ((n - 1 : Nat) : Int) < 0 := by omega
  have w1 : IntKind.i64.wrap ((n : Int) - 1) = ((n - 1 : Nat) : Int) := by rw [wrap64 (by omega) (by omega)]; omega
  have p2 : (2 : Int) ≤ ((2 ^ n : Nat) : Int) := by
    have : 2 ^ 1 ≤ 2 ^ n := Nat.pow_le_pow_right (by omega) hn.1
    omega
  have hd := Zk7 hv hp.1
  have hd2 : -4611686018427387904 ≤ v / ((2 ^ n : Nat) : Int) ∧ v / ((2 ^ n : Nat) : Int) ≤ 4611686018427387904 := by
    unfold In64 at *
    have e1 := Int.mul_ediv_add_emod v ((2 ^ n : Nat) : Int)
    have e2 := Int.emod_nonneg v (show ((2 ^ n : Nat) : Int) ≠ 0 by omega)
    have e3 := Int.emod_lt_of_pos v (show 0 < ((2 ^ n : Nat) : Int) by omega)
    generalize ((2 ^ n : Nat) : Int) = b at *
    generalize v / b = q at *
    generalize v % b = r at *
    constructor
    · refine Int.not_lt.1 fun h => ?_
      have t1 := Int.mul_le_mul_of_nonneg_left (show q ≤ -4611686018427387905 by omega) (show 0 ≤ b by omega)
      omega
    · refine Int.not_lt.1 fun h => ?_
      have t1 := Int.mul_le_mul_of_nonneg_left (show 4611686018427387905 ≤ q by omega) (show 0 ≤ b by omega)
      omega
  have w2 : IntKind.i64.wrap (v / ((2 ^ n : Nat) : Int) + v / ((2 ^ (n - 1) : Nat) : Int) % 2) = v / ((2 ^ n : Nat) : Int) + v / ((2 ^ (n - 1) : Nat) : Int) % 2 := by
    have := Int.emod_nonneg (v / ((2 ^ (n - 1) : Nat) : Int)) (show (2 : Int) ≠ 0 by omega)
    have := Int.emod_lt_of_pos (v / ((2 ^ (n - 1) : Nat) : Int)) (show (0 : Int) < 2 by omega)
    exact wrap64 (by omega) (by omega)
  simp -implicitDefEqProofs only [g41, g41_0, asI_i, Zc, Zd, Zb, I4, I8, I16, Za, Bool.cond_decide, if_neg h1, if_neg h2, if_neg h3, w1, if_neg h4, Zk9 v n (by omega), Zk9 v (n - 1) (by omega), and1, w2]
theorem round8 (v : Int) (hv : In64 v) : g41 (0, [.i v, .i 8]) = some (0, [.i ((v + 128) / 256)]) := by
  have := ZiT v 8 (by omega) hv
  simp only [show ((8 : Nat) : Int) = 8 from rfl, show ((2 ^ 8 : Nat) : Int) = 256 from rfl, show ((2 ^ (8 - 1) : Nat) : Int) = 128 from rfl] at this
  rw [this, show v / 256 + v / 128 % 2 = (v + 128) / 256 by omega]
theorem round14 (v : Int) (hv : In64 v) : g41 (0, [.i v, .i 14]) = some (0, [.i ((v + 8192) / 16384)]) := by
  have := ZiT v 14 (by omega) hv
  simp only [show ((14 : Nat) : Int) = 14 from rfl, show ((2 ^ 14 : Nat) : Int) = 16384 from rfl, show ((2 ^ (14 - 1) : Nat) : Int) = 8192 from rfl] at this
  rw [this, show v / 16384 + v / 8192 % 2 = (v + 8192) / 16384 by omega]
end Go.Proofs.Ytlbfafbhflblcaa
