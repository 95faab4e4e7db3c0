/-
  A loop's way from head to head. Conditions: none.
-/
import Derived.Test.YthofmhnbncopjaaSxW
namespace Go.Proofs.Ythofmhnbncopjaa
open Go Go.Sx
/-- A loop's way from head to head, to its end. -/
inductive Path (m : Nat) (f : Nat × List Leaf → Option (Nat × List Leaf)) : Nat × List Leaf → Nat × List Leaf → Nat → Prop
  | fin {s : Nat × List Leaf} {j : Nat} {r : List Leaf} : f s = some (m + j, r) → Path m f s (j, r) 0
  | step {s s' e : Nat × List Leaf} {n : Nat} : f s = some s' → Nat.ble (s'.1 + 1) m = true → Path m f s' e n → Path m f s e (n + 1)
theorem Path.iter {m : Nat} {f : Nat × List Leaf → Option (Nat × List Leaf)} {s e : Nat × List Leaf} {n : Nat} (h : Path m f s e n) : ∀ q, n < q → iterL m f q s = some e := by
  induction h with
  | fin h =>
    intro q hq
    obtain ⟨q, rfl⟩ : ∃ k, q = k + 1 := ⟨q - 1, by omega⟩
    simp only [iterL, h]
    rw [if_neg (by omega), Nat.add_sub_cancel_left]
  | step h1 h2 _ ih =>
    intro q hq
    obtain ⟨q, rfl⟩ : ∃ k, q = k + 1 := ⟨q - 1, by omega⟩
    rw [loop_step h1 (Nat.le_of_ble_eq_true h2)]
    exact ih q (by omega)
theorem Path.run {m : Nat} {f : Nat × List Leaf → Option (Nat × List Leaf)} {s e : Nat × List Leaf} {n : Nat} (h : Path m f s e n) (hn : Nat.ble n 1000 = true) : loopL m f s = some e := by
  have := Nat.le_of_ble_eq_true hn
  exact h.iter loopFuel (fuel_pos (by omega))
end Go.Proofs.Ythofmhnbncopjaa
