/-
  BitsWrites, its kinds of items together. Conditions: none.
-/
import Derived.Test.YtkahlinndcnjiaaWrites
import Derived.Test.YtkahlinndcnjiaaWritesN
import Derived.Test.YtkahlinndcnjiaaSxZ
namespace Go.Proofs.Ytkahlinndcnjiaa
open Go Go.Sx
theorem item_wf {m : Nat} {h : List Int} (hm : h.length = m * 3) (hw : ∀ j, j < h.length → (kindAt [.bool, .int .i64, .int .i64] j).wf (h.getD j 0)) : ∀ k, k < m → -9223372036854775808 ≤ h.getD (k * 3 + 1) 0 ∧ h.getD (k * 3 + 1) 0 ≤ 9223372036854775807 := fun k hk => by
  have h1 := hw (k * 3 + 1) (by omega)
  rw [kindAt_add (ks := [.bool, .int .i64, .int .i64]) (i := k * 3) (j := 1) (Nat.mul_mod_left k 3)] at h1
  exact wf64 h1
end Go.Proofs.Ytkahlinndcnjiaa
