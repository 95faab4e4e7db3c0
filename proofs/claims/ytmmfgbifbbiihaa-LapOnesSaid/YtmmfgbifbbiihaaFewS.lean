/-
  A loop that takes up to so many of a list's numbers, among loops of more shapes. Conditions: none.
-/
import Derived.Test.YtmmfgbifbbiihaaSxW
namespace Go.Proofs.Ytmmfgbifbbiihaa
open Go Go.Sx
set_option linter.unusedVariables false
/-- A loop that takes up to so many of a list's numbers, each turned, into a new list: of m shapes, the one with a list being shape s. -/
theorem few_loopS {f : Nat × List Leaf → Option (Nat × List Leaf)} (m s : Nat) (hsm : 0 < s ∧ s < m) (cap : Nat) (cl : Int → Int) (l : List Int) (n : Nat) (hn : l.length = n) (h1 : 1 ≤ n) (hc : 1 ≤ cap) (hm : n < 18446744073709551616)
    (h0 : f (0, [.n n, .i 0, .l l]) = some (s, [.n n, .n 1, .i 1, .l l, .l [cl (l.getD 0 0)]]))
    (hs : ∀ (k : Nat) (L : List Int), 1 ≤ k → k < n → k < cap → L.length = k → f (s, [.n n, .n k, .i k, .l l, .l L]) = some (s, [.n n, .n (k + 1), .i (k + 1 : Nat), .l l, .l (L ++ [cl (l.getD k 0)])]))
    (he : ∀ (k : Nat) (L : List Int), (n ≤ k ∨ cap ≤ k) → k ≤ n → k ≤ cap → L.length = k → f (s, [.n n, .n k, .i k, .l l, .l L]) = some (m + s, [.n k, .l l, .l L])) :
    loopL m f (0, [.n n, .i 0, .l l]) = some (s, [.n (min cap n), .l l, .l (fewL cap cl l)]) := by
  have hlen : (fewL cap cl l).length = min cap n := by rw [fewL_len, hn]
  have main := loopL_run (m := m) (f := f) (fun k => if k = 0 then (0, [.n n, .i 0, .l l]) else (s, [.n n, .n k, .i k, .l l, .l ((fewL cap cl l).take k)])) (min cap n) (j := s) (r := [.n (min cap n), .l l, .l (fewL cap cl l)]) (fun k hk => ?_) ?_ (by omega)
  · simpa using main
  · have hg := fewL_get (cl := cl) (l := l) (k := k) (show k < cap by omega) (by omega)
    have ht := take_snoc hg
    simp only [Nat.succ_ne_zero, if_false]
    refine ⟨?_, hsm.2⟩
    by_cases hk0 : k = 0
    · subst hk0
      rw [if_pos rfl, h0, ht]
      rfl
    · rw [if_neg hk0, hs k _ (by omega) (by omega) (by omega) (by rw [List.length_take]; omega), ht]
  · have hne : ¬ min cap n = 0 := by omega
    rw [if_neg hne, List.take_of_length_le (by omega), he _ _ (by omega) (by omega) (by omega) hlen]
end Go.Proofs.Ytmmfgbifbbiihaa
