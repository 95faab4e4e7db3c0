/-
  Arithmetic for the abstract machine's laws. Conditions: none.
-/
import Derived.Test.YtlbfafbhflblcaaSxR
import Derived.IntWalk
import Derived.DataShut
namespace Go.Sx
open Go
theorem ZmU (a : Int) : IntKind.i64.wrap ((BitVec.ofInt 64 a &&& BitVec.ofInt 64 1).toNat : Nat) = a % 2 := by
  have h : (BitVec.ofInt 64 a &&& BitVec.ofInt 64 1).toNat = (a % 18446744073709551616).toNat % 2 := by
    rw [BitVec.toNat_and]
    simp only [BitVec.toNat_ofInt]
    exact Nat.and_one_is_mod _
  rw [h, IntWalk.i64_in _ (by omega)]
  omega
end Go.Sx
