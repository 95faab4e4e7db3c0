/-
  The law of lists the other way round. Conditions: none.
-/
import Derived.Test.YtmiekogllpmckaaDecA
import Derived.KernelRfl
namespace Go.Proofs.Ytmiekogllpmckaa
open Go Go.Sx
set_option maxRecDepth 100000
set_option linter.unusedVariables false
attribute [local simp] asI_i asB_b asL_l asN_n asS_s asE_nil altK_none altK_0 altK_1 altK_2 altK_3 optK_some optK_none Bool.cond_decide Bool.cond_not Int.toNat_natCast
set_option linter.unusedSimpArgs false
def cl (x : Int) : Int := if 1099511627776 < x then 1099511627776 else if x < -1099511627776 then -1099511627776 else x
def cutL (l : List Int) : List Int := (l.take 20).map cl
theorem take_snoc {α : Type} {l : List α} {k : Nat} {x : α} (h : l[k]? = some x) : l.take (k + 1) = l.take k ++ [x] := by
  rw [List.take_add_one, h]; rfl
theorem cut_ok (l : List Int) (n : Nat) (hn : l.length = n) (h0 : 1 ≤ n) (hm : n < 9223372036854775808) : g4 (0, [.n n, .l l]) = some (1, [.n (cutL l).length, .l l, .l (cutL l)]) := by
  have hlen : (cutL l).length = min 20 n := by simp [cutL, hn]
  have hl : L4_0 (0, [.n n, .i 0, .l l]) = some (1, [.n (cutL l).length, .l l, .l (cutL l)]) := by
    have := loopL_run (m := 2) (f := f4_0) (fun k => if k = 0 then (0, [.n n, .i 0, .l l]) else (1, [.n n, .n k, .i k, .l l, .l ((cutL l).take k)])) (cutL l).length (j := 1) (r := [.n (cutL l).length, .l l, .l (cutL l)]) (fun k hk => ?_) ?_ (by omega)
    · unfold L4_0; simpa using this
    · have hx := get_some (l := l) (i := k) (by omega)
      have hc : (cutL l)[k]? = some (cl (l.getD k 0)) := by
        simp only [cutL, List.getElem?_map, List.getElem?_take_of_lt (show k < 20 by omega), hx, Option.map_some]
      have h1 : (k : Int) < n := by omega
      have h2 : (k : Int) < 20 := by omega
      have h3 : (0 : Int) ≤ k ∧ (k : Int) < n := by omega
      have w2 : IntKind.i64.wrap ((k : Int) + 1) = ((k + 1 : Nat) : Int) := wrap_nat (n := k + 1) (by omega)
      have ht := take_snoc hc
      generalize l.getD k 0 = x at hx hc ht
      refine ⟨?_, by simp⟩
      simp only [Nat.succ_ne_zero, if_false]
      by_cases hk0 : k = 0
      · subst hk0
        have w3 : IntKind.i64.wrap ((0 : Int) + 1) = 1 := wrap_nat (n := 1) (by omega)
        have hx' : l[Int.toNat 0]? = some x := hx
        simp only [if_true, f4_0, f4_0_0, asN_n, asI_i, asL_l, asE_nil, Bool.cond_decide]
        rw [if_pos (by omega), if_pos (by omega), if_pos (by omega), hx', optK_some, w3, ht]
        unfold cl
        by_cases c1 : 1099511627776 < x
        · rw [if_pos c1, if_pos c1]; rfl
        · rw [if_neg c1, if_neg c1]
          by_cases c2 : x < -1099511627776
          · rw [if_pos c2, if_pos c2]; rfl
          · rw [if_neg c2, if_neg c2]; rfl
      · rw [if_neg hk0]
        have hlk : ((cutL l).take k).length = k * 1 := by rw [List.length_take]; omega
        have hb : (k + 1) * 8 ≤ 70368744177664 := by omega
        simp only [f4_0, f4_0_1, asN_n, asI_i, asL_l, asE_nil, Bool.cond_decide, if_pos h1, if_pos h2, if_pos h3, Int.toNat_natCast, hx, optK_some, w2, hlk, if_pos hb, if_true, ht]
        unfold cl
        by_cases c1 : 1099511627776 < x
        · rw [if_pos c1, if_pos c1]
        · rw [if_neg c1, if_neg c1]
          by_cases c2 : x < -1099511627776
          · rw [if_pos c2, if_pos c2]
          · rw [if_neg c2, if_neg c2]
    · have hne : ¬ (cutL l).length = 0 := by omega
      simp only [if_neg hne, f4_0, f4_0_1, asN_n, asI_i, asL_l, asE_nil, Bool.cond_decide]
      rw [List.take_of_length_le (Nat.le_refl _)]
      by_cases c1 : ((cutL l).length : Int) < n
      · rw [if_pos c1, if_neg (by omega)]
      · rw [if_neg c1]
  simp -implicitDefEqProofs only [g4, g4_0, asN_n, asL_l, asE_nil, hl, altK_1]
def flipK (l : List Int) (n k : Nat) : List Int := List.replicate (n - k) 0 ++ (l.take k).reverse
theorem flip_ok (l : List Int) (n : Nat) (hn : l.length = n) (hm : n ≤ 20) : g5 (0, [.n n, .l l]) = some (0, [.n n, .l l, .l l.reverse]) := by
  have hl : L5_0 (0, [.n n, .n n, .n n, .i n, .i 0, .l l, .l (List.replicate n 0)]) = some (0, [.n n, .l l, .l l.reverse]) := by
    have := loopL_run (m := 2) (f := f5_0) (fun k => (0, [.n n, .n n, .n n, .i n, .i k, .l l, .l (flipK l n k)])) n (j := 0) (r := [.n n, .l l, .l l.reverse]) (fun k hk => ⟨?_, by simp⟩) ?_ (by omega)
    · unfold L5_0; simpa [flipK] using this
    · have hx := get_some (l := l) (i := k) (by omega)
      have h1 : (k : Int) < n := by omega
      have h3 : (0 : Int) ≤ k ∧ (k : Int) < n := by omega
      have w2 : IntKind.i64.wrap ((k : Int) + 1) = ((k + 1 : Nat) : Int) := wrap_nat (n := k + 1) (by omega)
      have w3 : IntKind.i64.wrap (IntKind.i64.wrap ((n : Int) - 1) - k) = ((n - 1 - k : Nat) : Int) := by rw [wrap64 (x := (n : Int) - 1) (by omega) (by omega), wrap64 (by omega) (by omega)]; omega
      have h4 : (0 : Int) ≤ ((n - 1 - k : Nat) : Int) ∧ ((n - 1 - k : Nat) : Int) < n := by omega
      have h5 : n - 1 - k < (flipK l n k).length := by simp [flipK, hn]; omega
      have hset : (flipK l n k).set (n - 1 - k) (l.getD k 0) = flipK l n (k + 1) := by
        unfold flipK
        rw [take_snoc hx, List.reverse_append, show n - k = (n - 1 - k) + 1 by omega, List.replicate_succ', List.append_assoc, List.set_append_right _ _ (by simp)]
        simp [show n - (k + 1) = n - 1 - k by omega]
      simp only [f5_0, f5_0_0, asN_n, asI_i, asL_l, asE_nil, Bool.cond_decide, if_pos h1, if_pos h3, Int.toNat_natCast, hx, optK_some, w2, w3, if_pos h4, if_pos h5, hset]
    · have : flipK l n n = l.reverse := by simp [flipK, List.take_of_length_le (show l.length ≤ n by omega)]
      simp [f5_0, f5_0_0, this]
  simp -implicitDefEqProofs only [g5, g5_0, asN_n, asL_l, asE_nil, if_true, Int.toNat_natCast]
  rw [if_pos (by omega), if_pos (by omega), hl, altK_0]
  rfl
theorem flips (l : List Int) (n : Nat) (hn : l.length = n) (h0 : 1 ≤ n) (hm : n < 9223372036854775808) : g3 (0, [.n n, .l l]) = some (0, [.b true, .l l]) := by
  have hc := cut_ok l n hn h0 hm
  have hlen : (cutL l).length = min 20 n := by simp [cutL, hn]
  obtain ⟨c, hcl⟩ : ∃ c, c = (cutL l).length := ⟨_, rfl⟩
  rw [← hcl] at hc hlen
  have hf := flip_ok (cutL l) c hcl.symm (by omega)
  have hl : L3_0 (1, [.n c, .n c, .i 0, .l l, .l (cutL l), .l (cutL l).reverse]) = some (1, [.l l, .l (cutL l), .l (cutL l).reverse]) := by
    refine loopL_run (m := 3) (f := f3_0) (fun k => (1, [.n c, .n c, .i k, .l l, .l (cutL l), .l (cutL l).reverse])) c (j := 1) (fun k hk => ⟨?_, by simp⟩) (by simp [f3_0, f3_0_1]) (by omega)
    have hx := get_some (l := cutL l) (i := c - 1 - k) (by omega)
    have hr : (cutL l).reverse[k]? = some ((cutL l).getD (c - 1 - k) 0) := by
      rw [List.getElem?_reverse (by omega), ← hcl, hx]
    have h1 : (k : Int) < c := by omega
    have h3 : (0 : Int) ≤ k ∧ (k : Int) < c := by omega
    have w2 : IntKind.i64.wrap ((k : Int) + 1) = ((k + 1 : Nat) : Int) := wrap_nat (n := k + 1) (by omega)
    have w3 : IntKind.i64.wrap (IntKind.i64.wrap ((c : Int) - 1) - k) = ((c - 1 - k : Nat) : Int) := by rw [wrap64 (x := (c : Int) - 1) (by omega) (by omega), wrap64 (by omega) (by omega)]; omega
    have h4 : (0 : Int) ≤ ((c - 1 - k : Nat) : Int) ∧ ((c - 1 - k : Nat) : Int) < c := by omega
    simp only [f3_0, f3_0_1, asN_n, asI_i, asL_l, asE_nil, Bool.cond_decide, if_pos h1, if_pos h3, Int.toNat_natCast, hr, optK_some, w2, w3, if_pos h4, hx, ne_eq, not_true_eq_false, if_false]
  simp -implicitDefEqProofs only [g3, g3_0, asN_n, asL_l, asB_b, asE_nil, hc, altK_1, hf, altK_0, Bool.cond_decide, ne_eq, not_true_eq_false, if_false, hl, awakeL_ok]
theorem flips_n : evF tab 30 3 [.nils] [] = some (.bool true, [], []) := by kernel_rfl
theorem flips_d : evF tab 30 3 [.slice 0 0 0 1] [⟨true, .unk⟩] = some (.bool true, [⟨true, .unk⟩], []) := by kernel_rfl
theorem flips_0 : evF tab 30 3 [.slice 0 0 0 1] [⟨false, .ints .i64 []⟩] = some (.bool true, [⟨false, .ints .i64 []⟩], []) := by kernel_rfl
theorem flips_l (l : List Int) (n : Nat) (hn : l.length = n * 1) (hm : n ≤ maxLen) : ∃ d, evF tab d 3 [.slice 0 0 n 1] [⟨false, .ints .i64 l⟩] = some (.bool true, [⟨false, .ints .i64 l⟩], []) := by
  unfold maxLen at hm
  by_cases h0 : n = 0
  · subst h0
    have : l = [] := List.length_eq_zero_iff.1 (by omega)
    subst this
    exact ⟨30, flips_0⟩
  · exact ⟨_, (ok3 0).ret (i := 0) (ls := [.n n, .l l]) (j := 0) (r := [.b true, .l l]) (flips l n (by omega) (by omega) (by omega)) rfl rfl rfl rfl⟩
end Go.Proofs.Ytmiekogllpmckaa
