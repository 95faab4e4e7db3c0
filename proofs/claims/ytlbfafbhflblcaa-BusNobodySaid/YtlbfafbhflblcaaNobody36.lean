/-
  The law of nobody's bus, by the abstract machine. Conditions: none.
-/
import Derived.Test.YtlbfafbhflblcaaTab
import Derived.Test.YtlbfafbhflblcaaSxV
import Derived.KernelRfl
namespace Go.Proofs.Ytlbfafbhflblcaa
open Go Go.Sx
set_option maxRecDepth 100000
theorem two {l : List Int} (h : l.length = 2) : ∃ a b, l = [a, b] := by
  match l, h with
  | [a, b], _ => exact ⟨a, b, rfl⟩
theorem nobody_ab (a b : Int) : evF tab 30 5 [.ints .i64 [a, b]] [] = some (.bool true, [], []) := by kernel_rfl
theorem nobody (l : List Int) (h : l.length = 2) : evF tab 30 5 [.ints .i64 l] [] = some (.bool true, [], []) := by
  obtain ⟨a, b, rfl⟩ := two h
  exact nobody_ab a b
end Go.Proofs.Ytlbfafbhflblcaa
