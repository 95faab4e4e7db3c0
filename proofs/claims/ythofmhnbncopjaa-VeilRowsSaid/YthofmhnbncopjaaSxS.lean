/-
  Arithmetic for the abstract machine's laws. Conditions: none.
-/
import Derived.Test.YthofmhnbncopjaaSxR
import Derived.IntWalk
import Derived.DataShut
namespace Go.Sx
open Go
theorem wf64 {a : Int} (h : (Lit.int .i64 a).wf = true) : -9223372036854775808 ≤ a ∧ a ≤ 9223372036854775807 := by
  have := (Lit.wf_int_iff .i64 a).1 h
  simpa [IntKind.min, IntKind.max, IntKind.bits, IntKind.signed] using this
theorem and_one (a : Int) : IntKind.i64.wrap ((BitVec.ofInt 64 a &&& BitVec.ofInt 64 1).toNat : Nat) = a % 2 := by
  have h : (BitVec.ofInt 64 a &&& BitVec.ofInt 64 1).toNat = (a % 18446744073709551616).toNat % 2 := by
    rw [BitVec.toNat_and]
    simp only [BitVec.toNat_ofInt]
    exact Nat.and_one_is_mod _
  rw [h, IntWalk.i64_in _ (by omega)]
  omega
theorem bits_one (a : Int) : bitsOf .and .i64 a 1 = some (a % 2) := by
  show some (IntKind.i64.wrap ((BitVec.ofInt 64 a &&& BitVec.ofInt 64 1).toNat : Nat)) = _
  rw [and_one]
theorem mul_box {a b A B : Int} (ha : 0 ≤ a) (hA : a ≤ A) (hb : 0 ≤ b) (hB : b ≤ B) : 0 ≤ a * b ∧ a * b ≤ A * B :=
  ⟨Int.mul_nonneg ha hb, Int.mul_le_mul hA hB hb (by omega)⟩
theorem div_at {r P c : Int} (hP : 0 < P) (h1 : 0 ≤ r - P * c) (h2 : r - P * c < P) : r / P = c := by
  have e : r = (r - P * c) + P * c := by omega
  rw [e, Int.add_mul_ediv_left _ _ (by omega), Int.ediv_eq_zero_of_lt h1 h2]
  omega
theorem round_arith {x P H q r : Int} (hP : P = 2 * H) (hH : 1 ≤ H) (hx : x = P * q + r) (h1 : -P < r) (h2 : r < P) :
    x / P + x / H % 2 = if H ≤ r then q + 1 else if r < -H then q - 1 else q := by
  subst hP
  have e : 2 * H * q = H * (2 * q) := by rw [Int.mul_comm 2 H, Int.mul_assoc]
  have m1 : 2 * H * (q - 1) = 2 * H * q - 2 * H := by rw [Int.mul_sub, Int.mul_one]
  have m2 : H * (2 * q + 1) = H * (2 * q) + H := by rw [Int.mul_add, Int.mul_one]
  have m3 : H * (2 * q - 1) = H * (2 * q) - H := by rw [Int.mul_sub, Int.mul_one]
  have m4 : H * (2 * q - 2) = H * (2 * q) - 2 * H := by rw [Int.mul_sub]; omega
  by_cases g1 : H ≤ r
  · rw [if_pos g1, div_at (c := q) (by omega) (by omega) (by omega), div_at (c := 2 * q + 1) (by omega) (by omega) (by omega)]
    omega
  · rw [if_neg g1]
    by_cases g2 : r < -H
    · rw [if_pos g2, div_at (c := q - 1) (by omega) (by omega) (by omega), div_at (c := 2 * q - 2) (by omega) (by omega) (by omega)]
      omega
    · rw [if_neg g2]
      by_cases g3 : 0 ≤ r
      · rw [div_at (c := q) (by omega) (by omega) (by omega), div_at (c := 2 * q) (by omega) (by omega) (by omega)]
        omega
      · rw [div_at (c := q - 1) (by omega) (by omega) (by omega), div_at (c := 2 * q - 1) (by omega) (by omega) (by omega)]
        omega
end Go.Sx
