/-
  The law of nobody's swing, by the abstract machine. Conditions: none.
-/
import Derived.Test.YtkgcilalmhejcaaTab
import Derived.Test.YtkgcilalmhejcaaSxV
import Derived.KernelRfl
namespace Go.Proofs.Ytkgcilalmhejcaa
open Go Go.Sx
set_option maxRecDepth 100000
theorem nobody (n : Int) : evF tab 30 5 [.int .i64 n] [] = some (.bool true, [], []) := by kernel_rfl
end Go.Proofs.Ytkgcilalmhejcaa
