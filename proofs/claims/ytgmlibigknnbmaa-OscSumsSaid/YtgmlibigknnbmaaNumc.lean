/-
  What the numbers' functions tell: held, without a sign, quotients downwards, what they leave, rounded by powers of two. Conditions: none.
-/
import Derived.Test.YtgmlibigknnbmaaDecS
import Derived.KernelRfl
namespace Go.Proofs.Ytgmlibigknnbmaa
open Go Go.Sx S
set_option maxRecDepth 100000
set_option linter.unusedVariables false
attribute [local simp] asI_i asB_b asL_l asN_n asS_s asE_nil altK_none altK_0 altK_1 altK_2 altK_3 optK_some optK_none Bool.cond_decide Bool.cond_not Int.toNat_natCast
set_option linter.unusedSimpArgs false
def In64 (d : Int) : Prop := -9223372036854775808 ≤ d ∧ d ≤ 9223372036854775807
theorem wrap_def (x : Int) : IntKind.i64.wrap x = if 9223372036854775808 ≤ x % 18446744073709551616 then x % 18446744073709551616 - 18446744073709551616 else x % 18446744073709551616 := by
  show (if (true && decide (x % 18446744073709551616 ≥ 9223372036854775808)) = true then x % 18446744073709551616 - 18446744073709551616 else x % 18446744073709551616) = _
  by_cases h : 9223372036854775808 ≤ x % 18446744073709551616
  · rw [if_pos h, if_pos (by simpa using h)]
  · rw [if_neg h, if_neg (by simpa using h)]
theorem wrap_any (x : Int) (h : -18446744073709551616 ≤ x ∧ x < 18446744073709551616) : (In64 x ∧ IntKind.i64.wrap x = x) ∨ (9223372036854775807 < x ∧ IntKind.i64.wrap x = x - 18446744073709551616) ∨ (x < -9223372036854775808 ∧ IntKind.i64.wrap x = x + 18446744073709551616) := by
  unfold In64
  rw [wrap_def]
  split <;> omega
theorem wrap_in (x : Int) : In64 (IntKind.i64.wrap x) := by
  unfold In64
  rw [wrap_def]
  split <;> omega
def absV (d : Int) : Int := if d = -9223372036854775808 then 9223372036854775807 else if d < 0 then 0 - d else d
theorem absV_in {v : Int} (h : In64 v) : 0 ≤ absV v ∧ absV v ≤ 9223372036854775807 := by
  unfold In64 at h
  unfold absV
  repeat' split
  all_goals omega
def clampV (x a b : Int) : Int := if x < a ∨ b < a then a else if b < x then b else x
theorem clampV_in {a b : Int} (h : a ≤ b) (x : Int) : a ≤ clampV x a b ∧ clampV x a b ≤ b := by
  unfold clampV
  repeat' split
  all_goals omega
theorem clampV_id {a b x : Int} (h1 : a ≤ x) (h2 : x ≤ b) : clampV x a b = x := by
  unfold clampV
  rw [if_neg (by omega), if_neg (by omega)]
def satV (x : Int) : Int := clampV x (-32768) 32767
theorem satV_in (x : Int) : -32768 ≤ satV x ∧ satV x ≤ 32767 := clampV_in (by omega) x
theorem satV_id {x : Int} (h1 : -32768 ≤ x) (h2 : x ≤ 32767) : satV x = x := clampV_id h1 h2
theorem clamp_ok (x a b : Int) : g28 (0, [.i x, .i a, .i b]) = some (0, [.i (clampV x a b)]) := by
  simp -implicitDefEqProofs only [g28, g28_0, asI_i, asE_nil, Bool.cond_decide]
  unfold clampV
  by_cases h1 : x < a
  · rw [if_pos h1, if_pos (Or.inl h1)]
  · rw [if_neg h1]
    by_cases h2 : b < a
    · rw [if_pos h2, if_pos (Or.inr h2)]
    · rw [if_neg h2, if_neg (show ¬ (x < a ∨ b < a) by omega)]
      by_cases h3 : b < x
      · rw [if_pos h3, if_pos h3]
      · rw [if_neg h3, if_neg h3]
theorem sat_ok (x : Int) : g27 (0, [.i x]) = some (0, [.i (satV x)]) := by
  simp -implicitDefEqProofs only [g27, g27_0, asI_i, asE_nil, clamp_ok, altK_0]
  rfl
theorem tdiv_floor (a : Int) {b : Int} (hb : 1 ≤ b) : (if Int.tmod a b < 0 then Int.tdiv a b - 1 else Int.tdiv a b) = a / b := by
  rw [show a / b = a.fdiv b from (Int.fdiv_eq_ediv_of_nonneg _ (by omega)).symm]
  have h1 := Int.mul_tdiv_add_tmod a b
  have h2 := Int.tmod_lt_of_pos a (show 0 < b by omega)
  have h3 : -b < Int.tmod a b := Int.lt_tmod_of_pos a (by omega)
  rw [Int.fdiv_eq_ediv_of_nonneg _ (by omega)]
  generalize Int.tdiv a b = q at *
  generalize Int.tmod a b = r at *
  subst h1
  split
  · have e : b * q + r = (r + b) + b * (q - 1) := by rw [Int.mul_sub, Int.mul_one]; omega
    rw [e, Int.add_mul_ediv_left _ _ (by omega), Int.ediv_eq_zero_of_lt (by omega) (by omega)]
    omega
  · rw [Int.add_comm, Int.add_mul_ediv_left _ _ (by omega), Int.ediv_eq_zero_of_lt (by omega) (by omega)]
    omega
theorem tmod_floor (a : Int) {b : Int} (hb : 1 ≤ b) : (if Int.tmod a b < 0 then Int.tmod a b + b else Int.tmod a b) = a % b := by
  have h1 := Int.mul_tdiv_add_tmod a b
  have h2 := Int.tmod_lt_of_pos a (show 0 < b by omega)
  have h3 : -b < Int.tmod a b := Int.lt_tmod_of_pos a (by omega)
  generalize Int.tdiv a b = q at *
  generalize Int.tmod a b = r at *
  subst h1
  split
  · have e : b * q + r = (r + b) + b * (q - 1) := by rw [Int.mul_sub, Int.mul_one]; omega
    rw [e, Int.add_mul_emod_self_left, Int.emod_eq_of_lt (by omega) (by omega)]
  · rw [Int.add_comm, Int.add_mul_emod_self_left, Int.emod_eq_of_lt (by omega) (by omega)]
theorem div_in {a b : Int} (ha : In64 a) (hb : 1 ≤ b) : In64 (a / b) := by
  unfold In64 at *
  have h1 := Int.mul_ediv_add_emod a b
  have h2 := Int.emod_nonneg a (show b ≠ 0 by omega)
  have h3 := Int.emod_lt_of_pos a (show 0 < b by omega)
  generalize a / b = q at *
  generalize a % b = r at *
  constructor
  · refine Int.not_lt.1 fun h => ?_
    have := Int.mul_le_mul_of_nonneg_left (show q ≤ -9223372036854775809 by omega) (show 0 ≤ b by omega)
    omega
  · refine Int.not_lt.1 fun h => ?_
    have := Int.mul_le_mul_of_nonneg_left (show 9223372036854775808 ≤ q by omega) (show 0 ≤ b by omega)
    omega
theorem tdiv_in {a b : Int} (ha : In64 a) (hb : 1 ≤ b) : In64 (Int.tdiv a b) ∧ (Int.tmod a b < 0 → -9223372036854775808 < Int.tdiv a b) := by
  have h := div_in ha hb
  have e := tdiv_floor a hb
  have h1 := Int.mul_tdiv_add_tmod a b
  have h2 := Int.tmod_lt_of_pos a (show 0 < b by omega)
  have h3 : -b < Int.tmod a b := Int.lt_tmod_of_pos a (by omega)
  unfold In64 at *
  split at e
  · refine ⟨⟨by omega, ?_⟩, fun _ => by omega⟩
    refine Int.not_lt.1 fun hh => ?_
    have := Int.mul_le_mul_of_nonneg_left (show 9223372036854775808 ≤ Int.tdiv a b by omega) (show 0 ≤ b by omega)
    omega
  · exact ⟨by omega, fun _ => by omega⟩
theorem floor_ok (a b : Int) (ha : In64 a) (hb : 1 ≤ b) : g21 (0, [.i a, .i b]) = some (0, [.i (a / b)]) := by
  have hq := tdiv_in ha hb
  have e := tdiv_floor a hb
  unfold In64 at hq
  have w1 : IntKind.i64.wrap (Int.tdiv a b) = Int.tdiv a b := wrap64 (by omega) (by omega)
  rw [← e]
  simp -implicitDefEqProofs only [g21, g21_0, asI_i, asE_nil, Bool.cond_decide, if_neg (show ¬ b < 1 by omega), if_neg (show ¬ b = 0 by omega), w1]
  by_cases h : Int.tmod a b < 0
  · rw [if_pos h, if_pos h, wrap64 (by omega) (by omega)]
  · rw [if_neg h, if_neg h]
theorem pow_le62 {n : Nat} (h : n ≤ 62) : (1 : Int) ≤ ((2 ^ n : Nat) : Int) ∧ ((2 ^ n : Nat) : Int) ≤ 4611686018427387904 := by
  have h1 : 2 ^ n ≤ 2 ^ 62 := Nat.pow_le_pow_right (by omega) h
  have h2 : 0 < 2 ^ n := Nat.pow_pos (by omega)
  have h3 : (2 : Nat) ^ 62 = 4611686018427387904 := by decide
  rw [h3] at h1
  generalize (2 : Nat) ^ n = x at *
  omega
theorem powI (n : Nat) : ((2 : Int) ^ n) = ((2 ^ n : Nat) : Int) := by simp
theorem shr_pow (v : Int) (n : Nat) (h : n ≤ 62) : shrI .i64 v n = v / ((2 ^ n : Nat) : Int) := by
  have hm : min n 64 = n := by omega
  have hp := pow_le62 h
  unfold shrI
  simp only [Int.toNat_natCast, IntKind.bits, hm, powI]
  exact Int.fdiv_eq_ediv_of_nonneg _ (by omega)
theorem and1 (a : Int) : bAnd .i64 a 1 = a % 2 := and_one a
theorem getD_in {l : List Int} (hw : ∀ x ∈ l, (Lit.int .i64 x).wf = true) (k : Nat) : In64 (l.getD k 0) := by
  by_cases h : k < l.length
  · have hx := get_some (l := l) (i := k) h
    exact wf64 (hw _ (List.mem_of_getElem? hx))
  · have : l.getD k 0 = 0 := by simp [List.getElem?_eq_none (show l.length ≤ k by omega)]
    rw [this]
    unfold In64
    omega
end Go.Proofs.Ytgmlibigknnbmaa
