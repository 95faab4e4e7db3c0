/-
  Sums that are held, and the greatest of numbers. Conditions: none.
-/
import Derived.Test.YthgmblahjndpaaaDecA
import Derived.KernelRfl
namespace Go.Proofs.Ythgmblahjndpaaa
open Go Go.Sx
set_option maxRecDepth 100000
set_option linter.unusedVariables false
attribute [local simp] asI_i asB_b asL_l asN_n asS_s asE_nil altK_none altK_0 altK_1 altK_2 altK_3 optK_some optK_none Bool.cond_decide Bool.cond_not Int.toNat_natCast
set_option linter.unusedSimpArgs false
def In64 (x : Int) : Prop := -9223372036854775808 ≤ x ∧ x ≤ 9223372036854775807
theorem wrap_def (x : Int) : IntKind.i64.wrap x = if 9223372036854775808 ≤ x % 18446744073709551616 then x % 18446744073709551616 - 18446744073709551616 else x % 18446744073709551616 := by
  show (if (true && decide (x % 18446744073709551616 ≥ 9223372036854775808)) = true then x % 18446744073709551616 - 18446744073709551616 else x % 18446744073709551616) = _
  by_cases h : 9223372036854775808 ≤ x % 18446744073709551616
  · rw [if_pos h, if_pos (by simpa using h)]
  · rw [if_neg h, if_neg (by simpa using h)]
theorem wrap_any (x : Int) (h : -18446744073709551616 ≤ x ∧ x < 18446744073709551616) : (In64 x ∧ IntKind.i64.wrap x = x) ∨ (9223372036854775807 < x ∧ IntKind.i64.wrap x = x - 18446744073709551616) ∨ (x < -9223372036854775808 ∧ IntKind.i64.wrap x = x + 18446744073709551616) := by
  unfold In64
  rw [wrap_def]
  split <;> omega
def satAdd (a b : Int) : Int := if 9223372036854775807 < a + b then 9223372036854775807 else if a + b < -9223372036854775808 then -9223372036854775808 else a + b
theorem satAdd_spec (a b : Int) : (9223372036854775807 < a + b ∧ satAdd a b = 9223372036854775807) ∨ (a + b < -9223372036854775808 ∧ satAdd a b = -9223372036854775808) ∨ (In64 (a + b) ∧ satAdd a b = a + b) := by
  unfold satAdd In64
  split
  · left; omega
  · split
    · right; left; omega
    · right; right; omega
theorem satAdd_in (a b : Int) : In64 (satAdd a b) := by
  have := satAdd_spec a b
  unfold In64 at *
  omega
def absV (v : Int) : Int := if v = -9223372036854775808 then 9223372036854775807 else if v < 0 then -v else v
theorem absV_in {v : Int} (h : In64 v) : 0 ≤ absV v ∧ absV v ≤ 9223372036854775807 := by
  unfold absV In64 at *
  split
  · omega
  · split <;> omega
theorem abs_ok (v : Int) (h : In64 v) : g17 (0, [.i v]) = some (0, [.i (absV v)]) := by
  unfold In64 at h
  simp only [g17, g17_0, asI_i, asE_nil, Bool.cond_decide]
  unfold absV
  by_cases h1 : v = -9223372036854775808
  · rw [if_pos h1, if_pos h1]
  · rw [if_neg h1, if_neg h1]
    by_cases h2 : v < 0
    · rw [if_pos h2, if_pos h2, wrap64 (by omega) (by omega)]
      congr 4
      omega
    · rw [if_neg h2, if_neg h2]
def sumK (l : List Int) : Nat → Int
  | 0 => 0
  | k + 1 => satAdd (sumK l k) (l.getD k 0)
def pkK (l : List Int) : Nat → Int
  | 0 => 0
  | k + 1 => max (pkK l k) (absV (l.getD k 0))
theorem sumK_in (l : List Int) : ∀ k, In64 (sumK l k)
  | 0 => by unfold In64 sumK; omega
  | k + 1 => satAdd_in _ _
theorem max_if (a b : Int) : (if b > a then b else a) = max a b := by split <;> omega
theorem add_step (l : List Int) (n k : Nat) (s : Int) (hs : In64 s) (hv : In64 (l.getD k 0)) (hn : n ≤ l.length) (hk : k < n) (hm : n < 4611686018427387904) :
    f22_0 (0, [.i s, .n n, .i n, .i k, .l l]) = some (0, [.i (satAdd s (l.getD k 0)), .n n, .i n, .i (k + 1 : Nat), .l l]) := by
  have hx := get_some (l := l) (i := k) (by omega)
  have h1 : (k : Int) < n := by omega
  have h0 : (0 : Int) ≤ k ∧ (k : Int) < n := by omega
  have w2 : IntKind.i64.wrap ((k : Int) + 1) = ((k + 1 : Nat) : Int) := wrap_nat (n := k + 1) (by omega)
  generalize l.getD k 0 = v at *
  have hW := wrap_any (s + v) (by unfold In64 at *; omega)
  have hS := satAdd_spec s v
  simp -implicitDefEqProofs only [f22_0, f22_0_0, asN_n, asI_i, asL_l, asE_nil, Bool.cond_decide, if_pos h1, if_pos h0, Int.toNat_natCast, hx, optK_some, w2]
  generalize IntKind.i64.wrap (s + v) = W at *
  generalize satAdd s v = R at *
  unfold In64 at *
  repeat' split
  all_goals
    simp only [Option.some.injEq, Prod.mk.injEq, List.cons.injEq, Leaf.i.injEq, true_and, and_true]
    omega
theorem add_ok (l : List Int) (n : Nat) (hn : n ≤ l.length) (hm : n < 4611686018427387904) (hw : ∀ k, In64 (l.getD k 0)) : g22 (0, [.n n, .l l]) = some (0, [.i (sumK l n), .l l]) := by
  have hL : L22_0 (0, [.i 0, .n n, .i n, .i 0, .l l]) = some (0, [.i (sumK l n), .l l]) :=
    loop1_run (f := f22_0) (fun k => [.i (sumK l k), .n n, .i n, .i k, .l l]) n (fun k hk => add_step l n k _ (sumK_in l k) (hw k) hn hk hm) (by simp [f22_0, f22_0_0]) (by omega)
  simp -implicitDefEqProofs only [g22, g22_0, asN_n, asI_i, asL_l, asE_nil, hL, altK_0]
theorem peak_ok (l : List Int) (n : Nat) (hn : n ≤ l.length) (hm : n < 4611686018427387904) (hw : ∀ k, In64 (l.getD k 0)) : g24 (0, [.n n, .l l]) = some (0, [.i (pkK l n), .l l]) := by
  have hL : L24_0 (0, [.i 0, .n n, .i n, .i 0, .l l]) = some (0, [.i (pkK l n), .l l]) := by
    refine loop1_run (f := f24_0) (fun k => [.i (pkK l k), .n n, .i n, .i k, .l l]) n (fun k hk => ?_) (by simp [f24_0, f24_0_0]) (by omega)
    have hx := get_some (l := l) (i := k) (by omega)
    have h1 : (k : Int) < n := by omega
    have h0 : (0 : Int) ≤ k ∧ (k : Int) < n := by omega
    have w2 : IntKind.i64.wrap ((k : Int) + 1) = ((k + 1 : Nat) : Int) := wrap_nat (n := k + 1) (by omega)
    simp -implicitDefEqProofs only [f24_0, f24_0_0, asN_n, asI_i, asL_l, asE_nil, Bool.cond_decide, if_pos h1, if_pos h0, Int.toNat_natCast, hx, optK_some, w2, abs_ok _ (hw k), altK_0, max_if]
    rfl
  simp -implicitDefEqProofs only [g24, g24_0, asN_n, asI_i, asL_l, asE_nil, hL, altK_0]
def clampS (x : Int) : Int := if x < -32768 then -32768 else if 32767 < x then 32767 else x
theorem sat_ok (x : Int) : g16 (0, [.i x]) = some (0, [.i (clampS x)]) ∧ g15 (0, [.i x, .i (-32768), .i 32767]) = some (0, [.i (clampS x)]) := by
  simp only [g16, g16_0, g14, g14_0, g15, g15_0, asI_i, asE_nil, Bool.cond_decide]
  unfold clampS
  have hn : ¬ (32767 : Int) < -32768 := by omega
  by_cases h1 : x < -32768
  · simp [h1]
  · by_cases h2 : 32767 < x
    · simp [h1, h2]
    · simp [h1, h2]
theorem addL_ok (a b : Int) (ha : In64 a) (hb : In64 b) : g21 (0, [.i a, .i b]) = some (0, [.i (satAdd a b)]) := by
  have hS := satAdd_spec a b
  have hW := wrap_any (a + b) (by unfold In64 at *; omega)
  have w1 : 0 < b → IntKind.i64.wrap (9223372036854775807 - b) = 9223372036854775807 - b := fun h => by unfold In64 at *; exact wrap64 (by omega) (by omega)
  have w2 : b < 0 → IntKind.i64.wrap (-9223372036854775808 - b) = -9223372036854775808 - b := fun h => by unfold In64 at *; exact wrap64 (by omega) (by omega)
  simp -implicitDefEqProofs only [g21, g21_0, asI_i, asE_nil, Bool.cond_decide]
  generalize IntKind.i64.wrap (a + b) = W at *
  generalize satAdd a b = R at *
  unfold In64 at *
  by_cases h1 : 0 < b
  · rw [w1 h1]
    repeat' split
    all_goals
      simp only [Option.some.injEq, Prod.mk.injEq, List.cons.injEq, Leaf.i.injEq, true_and, and_true]
      omega
  · by_cases h2 : b < 0
    · rw [w2 h2]
      repeat' split
      all_goals
        simp only [Option.some.injEq, Prod.mk.injEq, List.cons.injEq, Leaf.i.injEq, true_and, and_true]
        omega
    · repeat' split
      all_goals
        simp only [Option.some.injEq, Prod.mk.injEq, List.cons.injEq, Leaf.i.injEq, true_and, and_true]
        omega
theorem sums_loop (l : List Int) (n : Nat) (hn : n ≤ l.length) (hm : n ≤ 50) (hw : ∀ k, In64 (l.getD k 0)) : L7_0 (0, [.n n, .i 0, .i 0, .i 0, .l l]) = some (0, [.n n, .i (sumK l n), .i (pkK l n), .l l]) := by
  refine loop1_run (f := f7_0) (fun k => [.n n, .i (sumK l k), .i (pkK l k), .i k, .l l]) n (fun k hk => ?_) (by simp [f7_0, f7_0_0]) (by omega)
  have hx := get_some (l := l) (i := k) (by omega)
  have h1 : (k : Int) < n := by omega
  have h0 : (0 : Int) ≤ k ∧ (k : Int) < n := by omega
  have w2 : IntKind.i64.wrap ((k : Int) + 1) = ((k + 1 : Nat) : Int) := wrap_nat (n := k + 1) (by omega)
  simp -implicitDefEqProofs only [f7_0, f7_0_0, asN_n, asI_i, asL_l, asE_nil, Bool.cond_decide, if_pos h1, if_pos h0, Int.toNat_natCast, hx, optK_some, w2, abs_ok _ (hw k), addL_ok _ _ (sumK_in l k) (hw k), altK_0]
  have e1 : sumK l (k + 1) = satAdd (sumK l k) (l.getD k 0) := rfl
  have e2 : pkK l (k + 1) = max (pkK l k) (absV (l.getD k 0)) := rfl
  rw [e1, e2]
  by_cases h : pkK l k < absV (l.getD k 0)
  · rw [if_pos h, show max (pkK l k) (absV (l.getD k 0)) = absV (l.getD k 0) by omega]
  · rw [if_neg h, show max (pkK l k) (absV (l.getD k 0)) = pkK l k by omega]
theorem mix_ok (l : List Int) (n : Nat) (hn : n ≤ l.length) (hm : n < 4611686018427387904) (hw : ∀ k, In64 (l.getD k 0)) : g23 (0, [.n n, .l l]) = some (0, [.i (clampS (sumK l n)), .l l]) := by
  simp -implicitDefEqProofs only [g23, g23_0, asN_n, asI_i, asL_l, asE_nil, add_ok l n hn hm hw, (sat_ok (sumK l n)).1, altK_0]
theorem awakeN : awakeL (0, []) = some (0, [.b true]) := rfl
theorem sums (l : List Int) (n : Nat) (hl : l.length = n) (hm : n < 9223372036854775808) (hw : ∀ k, In64 (l.getD k 0)) : g7 (0, [.n n, .l l]) = some (0, [.b true, .l l]) := by
  simp -implicitDefEqProofs only [g7, g7_0, asN_n, asL_l, asE_nil, Bool.cond_decide]
  by_cases h : (50 : Int) < n
  · have e1 := sums_loop l 50 (by omega) (by omega) hw
    have c : (0 : Int) ≤ 50 ∧ (50 : Int) ≤ (n : Int) := by omega
    rw [if_pos h, if_pos c, e1]
    simp -implicitDefEqProofs only [altK_0, asN_n, asI_i, asL_l, asE_nil, add_ok l 50 (by omega) (by omega) hw, mix_ok l 50 (by omega) (by omega) hw, peak_ok l 50 (by omega) (by omega) hw, (sat_ok (sumK l 50)).2, Bool.cond_decide, if_true, awakeN, asB_b]
  · have e1 := sums_loop l n (by omega) (by omega) hw
    rw [if_neg h, e1]
    simp -implicitDefEqProofs only [altK_0, asN_n, asI_i, asL_l, asE_nil, add_ok l n (by omega) (by omega) hw, mix_ok l n (by omega) (by omega) hw, peak_ok l n (by omega) (by omega) hw, (sat_ok (sumK l n)).2, Bool.cond_decide, if_true, awakeN, asB_b]
theorem getD_wf {k : IntKind} {q : List Int} (h : ∀ x ∈ q, (Lit.int k x).wf = true) (i : Nat) : (Lit.int k (q.getD i 0)).wf = true := by
  by_cases hi : i < q.length
  · exact h _ (by simp [hi])
  · have : q.getD i 0 = 0 := by simp [List.getD, List.getElem?_eq_none (Nat.le_of_not_lt hi)]
    rw [this]
    cases k <;> rfl
theorem sums_n : evF tab 30 7 [.nils] [] = some (.bool true, [], []) := by kernel_rfl
theorem sums_d : evF tab 30 7 [.slice 0 0 0 1] [⟨true, .unk⟩] = some (.bool true, [⟨true, .unk⟩], []) := by kernel_rfl
theorem sums_l (l : List Int) (n : Nat) (hl : l.length = n * 1) (hm : n ≤ maxLen) (hw : ∀ x ∈ l, (Lit.int .i64 x).wf = true) : ∃ d, evF tab d 7 [.slice 0 0 n 1] [⟨false, .ints .i64 l⟩] = some (.bool true, [⟨false, .ints .i64 l⟩], []) :=
  ⟨_, (ok7 0).ret (i := 0) (ls := [.n n, .l l]) (j := 0) (r := [.b true, .l l]) (sums l n (by omega) (by unfold maxLen at hm; omega) (fun k => wf64 (getD_wf hw k))) rfl rfl rfl rfl⟩
end Go.Proofs.Ythgmblahjndpaaa
