/-
  Arithmetic for the abstract machine's laws. Conditions: none.
-/
import Derived.Test.YthgmblahjndpaaaSxR
import Derived.IntWalk
import Derived.DataShut
namespace Go.Sx
open Go
theorem wf64 {a : Int} (h : (Lit.int .i64 a).wf = true) : -9223372036854775808 ≤ a ∧ a ≤ 9223372036854775807 := by
  have := (Lit.wf_int_iff .i64 a).1 h
  simpa [IntKind.min, IntKind.max, IntKind.bits, IntKind.signed] using this
theorem and_one (a : Int) : IntKind.i64.wrap ((BitVec.ofInt 64 a &&& BitVec.ofInt 64 1).toNat : Nat) = a % 2 := by
  have h : (BitVec.ofInt 64 a &&& BitVec.ofInt 64 1).toNat = (a % 18446744073709551616).toNat % 2 := by
    rw [BitVec.toNat_and]
    simp only [BitVec.toNat_ofInt]
    exact Nat.and_one_is_mod _
  rw [h, IntWalk.i64_in _ (by omega)]
  omega
theorem bits_one (a : Int) : bitsOf .and .i64 a 1 = some (a % 2) := by
  show some (IntKind.i64.wrap ((BitVec.ofInt 64 a &&& BitVec.ofInt 64 1).toNat : Nat)) = _
  rw [and_one]
theorem mul_box {a b A B : Int} (ha : 0 ≤ a) (hA : a ≤ A) (hb : 0 ≤ b) (hB : b ≤ B) : 0 ≤ a * b ∧ a * b ≤ A * B :=
  ⟨Int.mul_nonneg ha hb, Int.mul_le_mul hA hB hb (by omega)⟩
end Go.Sx
