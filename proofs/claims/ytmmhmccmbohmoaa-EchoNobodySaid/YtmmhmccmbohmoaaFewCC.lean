/-
  What few samples are. Conditions: none.
-/
import Derived.Test.YtmmhmccmbohmoaaEchoC
namespace Go.Proofs.Ytmmhmccmbohmoaa
open Go Go.Sx C
set_option maxRecDepth 100000
set_option linter.unusedVariables false
attribute [local simp] asI_i asB_b asL_l asN_n asS_s asE_nil altK_none altK_0 altK_1 altK_2 altK_3 optK_some optK_none Bool.cond_decide Bool.cond_not Int.toNat_natCast
set_option linter.unusedSimpArgs false
/-- A loop that takes up to so many of a list's numbers, each turned, into a new list: of m shapes, the one with a list being shape s. -/
theorem few_loopS {f : Nat × List Leaf → Option (Nat × List Leaf)} (m s : Nat) (hsm : 0 < s ∧ s < m) (cap : Nat) (cl : Int → Int) (l : List Int) (n : Nat) (hn : l.length = n) (h1 : 1 ≤ n) (hc : 1 ≤ cap) (hm : n < 18446744073709551616)
    (h0 : f (0, [.n n, .i 0, .l l]) = some (s, [.n n, .n 1, .i 1, .l l, .l [cl (l.getD 0 0)]]))
    (hs : ∀ (k : Nat) (L : List Int), 1 ≤ k → k < n → k < cap → L.length = k → f (s, [.n n, .n k, .i k, .l l, .l L]) = some (s, [.n n, .n (k + 1), .i (k + 1 : Nat), .l l, .l (L ++ [cl (l.getD k 0)])]))
    (he : ∀ (k : Nat) (L : List Int), (n ≤ k ∨ cap ≤ k) → k ≤ n → k ≤ cap → L.length = k → f (s, [.n n, .n k, .i k, .l l, .l L]) = some (m + s, [.n k, .l l, .l L])) :
    loopL m f (0, [.n n, .i 0, .l l]) = some (s, [.n (min cap n), .l l, .l (fewL cap cl l)]) := by
  have hlen : (fewL cap cl l).length = min cap n := by rw [fewL_len, hn]
  have main := loopL_run (m := m) (f := f) (fun k => if k = 0 then (0, [.n n, .i 0, .l l]) else (s, [.n n, .n k, .i k, .l l, .l ((fewL cap cl l).take k)])) (min cap n) (j := s) (r := [.n (min cap n), .l l, .l (fewL cap cl l)]) (fun k hk => ?_) ?_ (by omega)
  · simpa using main
  · have hg := fewL_get (cl := cl) (l := l) (k := k) (show k < cap by omega) (by omega)
    have ht := take_snoc hg
    simp only [Nat.succ_ne_zero, if_false]
    refine ⟨?_, hsm.2⟩
    by_cases hk0 : k = 0
    · subst hk0
      rw [if_pos rfl, h0, ht]
      rfl
    · rw [if_neg hk0, hs k _ (by omega) (by omega) (by omega) (by rw [List.length_take]; omega), ht]
  · have hne : ¬ min cap n = 0 := by omega
    rw [if_neg hne, List.take_of_length_le (by omega), he _ _ (by omega) (by omega) (by omega) hlen]
theorem few_ok (l : List Int) (n : Nat) (hn : l.length = n) (h1 : 1 ≤ n) (hm : n < 9223372036854775808) : g6 (0, [.n n, .l l]) = some (1, [.n (min 150 n), .l l, .l (fewV l)]) := by
  have hl : L6_0 (0, [.n n, .i 0, .l l]) = some (3, [.n (min 150 n), .l l, .l (fewV l)]) := by
    refine few_loopS 4 3 (by omega) (f := f6_0) 150 (fun x => Int.tmod x 1048577) l n hn h1 (by omega) (by omega) ?_ (fun k L k1 k2 k3 hL => ?_) (fun k L k1 k2 k3 hL => ?_)
    · have hx : l[Int.toNat 0]? = some (l.getD 0 0) := get_some (l := l) (i := 0) (by omega)
      have w : IntKind.i64.wrap ((0 : Int) + 1) = 1 := wrap_nat (n := 1) (by omega)
      simp -implicitDefEqProofs only [f6_0, f6_0_0, asN_n, asI_i, asL_l, asE_nil, Bool.cond_decide, if_pos (show (0 : Int) < n by omega), if_pos (show (0 : Int) < 150 by omega), if_pos (show (0 : Int) ≤ 0 ∧ (0 : Int) < n by omega), hx, optK_some, w]
    · have hx := get_some (l := l) (i := k) (by omega)
      have w : IntKind.i64.wrap ((k : Int) + 1) = ((k + 1 : Nat) : Int) := wrap_nat (n := k + 1) (by omega)
      simp -implicitDefEqProofs only [f6_0, f6_0_3, asN_n, asI_i, asL_l, asE_nil, Bool.cond_decide, if_pos (show (k : Int) < n by omega), if_pos (show (k : Int) < 150 by omega), if_pos (show (0 : Int) ≤ k ∧ (k : Int) < n by omega), Int.toNat_natCast, hx, optK_some, w, if_pos (show (k + 1) * 8 ≤ 70368744177664 by omega), if_pos (show L.length = k * 1 by omega)]
    · simp -implicitDefEqProofs only [f6_0, f6_0_3, asN_n, asI_i, asL_l, asE_nil, Bool.cond_decide]
      by_cases c : (k : Int) < n
      · rw [if_pos c, if_neg (by omega)]
      · rw [if_neg c]
  simp -implicitDefEqProofs only [g6, g6_0, asN_n, asL_l, asE_nil, hl, altK_3]
theorem few_0 (l : List Int) : g6 (0, [.n 0, .l l]) = some (0, [.l l]) := by
  have hl : L6_0 (0, [.n 0, .i 0, .l l]) = some (0, [.l l]) := loopL_last (m := 4) (f := f6_0) (j := 0) (by
    simp -implicitDefEqProofs only [f6_0, f6_0_0, asN_n, asI_i, asL_l, asE_nil, Bool.cond_decide, if_neg (show ¬ (0 : Int) < ((0 : Nat) : Int) by omega)])
  simp -implicitDefEqProofs only [g6, g6_0, asN_n, asL_l, asE_nil, hl, altK_0]
theorem few_nil : g6 (1, []) = some (2, []) := by
  have hl : L6_0 (1, [.i 0]) = some (1, []) := loopL_last (m := 4) (f := f6_0) (j := 1) (by
    simp -implicitDefEqProofs only [f6_0, f6_0_1, asN_n, asI_i, asL_l, asE_nil, Bool.cond_decide, if_neg (Int.lt_irrefl _)])
  simp -implicitDefEqProofs only [g6, g6_1, asN_n, asL_l, asE_nil, hl, altK_1]
theorem few_z : g6 (2, []) = some (3, []) := by
  have hl : L6_0 (2, [.n 0, .i 0]) = some (2, []) := loopL_last (m := 4) (f := f6_0) (j := 2) (by
    simp -implicitDefEqProofs only [f6_0, f6_0_2, asN_n, asI_i, asL_l, asE_nil, Bool.cond_decide, if_neg (show ¬ (0 : Int) < ((0 : Nat) : Int) by omega)])
  simp -implicitDefEqProofs only [g6, g6_2, asN_n, asL_l, asE_nil, hl, altK_2]
end Go.Proofs.Ytmmhmccmbohmoaa
