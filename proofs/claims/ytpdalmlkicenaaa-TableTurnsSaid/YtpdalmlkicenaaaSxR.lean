/-
  Calls of the abstract machine over a range of numbers. Conditions: none.
-/
import Derived.Test.YtpdalmlkicenaaaSxQ
namespace Go.Sx
def isTrue : Option (EV × List Row × List Nat) → Bool
  | some (.bool true, [], []) => true
  | _ => false
theorem of_isTrue {x : Option (EV × List Row × List Nat)} (h : isTrue x = true) : x = some (.bool true, [], []) := by
  unfold isTrue at h
  split at h
  · rfl
  · cases h
/-- All of a range. -/
theorem all_range {p : Int → Bool} {lo : Int} {n : Nat} (h : ((List.range n).all fun i => p (lo + i)) = true) {k : Int} (h1 : lo ≤ k) (h2 : k < lo + n) : p k = true := by
  rw [List.all_eq_true] at h
  have := h (k - lo).toNat (by rw [List.mem_range]; omega)
  rwa [show lo + ((k - lo).toNat : Int) = k by omega] at this
end Go.Sx
