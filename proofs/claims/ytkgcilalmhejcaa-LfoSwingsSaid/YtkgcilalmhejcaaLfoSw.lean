/-
  The law of what a swing tells. Conditions: none.
-/
import Derived.Test.YtkgcilalmhejcaaOscAt
namespace Go.Proofs.Ytkgcilalmhejcaa
open Go Go.Sx
set_option maxRecDepth 100000
set_option linter.unusedVariables false
attribute [local simp] asI_i asB_b asL_l asN_n asS_s asE_nil altK_none altK_0 altK_1 altK_2 altK_3 optK_some optK_none Bool.cond_decide Bool.cond_not Int.toNat_natCast
set_option linter.unusedSimpArgs false
def RightS (c n l p d t : Int) : Prop := RightW c n l p ∧ c ≠ 4 ∧ l ≤ 256 ∧ 0 ≤ d ∧ d ≤ 256 ∧ 0 ≤ t ∧ t ≤ 1048576
instance (c n l p d t : Int) : Decidable (RightS c n l p d t) := by unfold RightS; infer_instance
theorem rightS_ok (c n l p s d t : Int) : g16 (0, [.i c, .i n, .i l, .i p, .i s, .i d, .i t]) = some (0, [.b (decide (RightS c n l p d t))]) := by
  have hr := right_ok c n l p s
  simp -implicitDefEqProofs only [g16, g16_0, asI_i, asB_b, asE_nil, Bool.cond_decide, hr, altK_0]
  by_cases h : RightS c n l p d t
  · rw [decide_eq_true h]
    unfold RightS at h
    obtain ⟨h0, h1, h2, h3, h4, h5, h6⟩ := h
    rw [if_pos h0, if_pos h1, if_pos h2, if_pos h3, if_pos h4, if_pos h5, decide_eq_true h6]
  · rw [decide_eq_false h]
    unfold RightS at h
    by_cases h0 : RightW c n l p
    · have h' : ¬ (c ≠ 4 ∧ l ≤ 256 ∧ 0 ≤ d ∧ d ≤ 256 ∧ 0 ≤ t ∧ t ≤ 1048576) := fun q => h ⟨h0, q⟩
      rw [if_pos h0]
      repeat' split
      all_goals first | rfl | rw [decide_eq_false (by omega)]
    · rw [if_neg h0]
theorem rightSL_ok (c n l p s d t : Int) : g17 (0, [.i c, .i n, .i l, .i p, .i s, .i d, .i t]) = some (0, [.b (decide (RightS c n l p d t))]) := rightS_ok c n l p s d t
def lV (c n l p d t i : Int) : Int := if RightS c n l p d t ∧ t ≤ i then atV c n l p (i - t) else 0
theorem lV_in (c n l p d t i : Int) : -256 ≤ lV c n l p d t i ∧ lV c n l p d t i ≤ 256 := by
  unfold lV
  split
  · rename_i h
    have h1 := h.1
    unfold RightS at h1
    have := at_in (c := c) (n := n) (l := l) (p := p) (i := i - t) h1.1
    omega
  · omega
theorem atS_ok (c n l p s d t i : Int) (h1 : -9223372036854775808 ≤ i) (h2 : i ≤ 1099511627776) : g14 (0, [.i c, .i n, .i l, .i p, .i s, .i d, .i t, .i i]) = some (0, [.i (lV c n l p d t i)]) := by
  have hr := rightS_ok c n l p s d t
  simp -implicitDefEqProofs only [g14, g14_0, asI_i, asB_b, asE_nil, Bool.cond_decide, hr, altK_0]
  unfold lV
  by_cases h : RightS c n l p d t
  · rw [decide_eq_true h, Bool.not_true, cond_false]
    by_cases q : i < t
    · rw [if_pos q, if_neg (by omega)]
    · rw [if_neg q, if_pos ⟨h, by omega⟩]
      unfold RightS at h
      have ha := at_ok (c := c) (n := n) (l := l) (p := p) (s := s) (i := i - t) h.1 (by omega)
      simp -implicitDefEqProofs only [wrap64 (x := i - t) (by omega) (by omega), ha, altK_0, asI_i, asE_nil]
  · rw [decide_eq_false h, Bool.not_false, cond_true, if_neg (fun q => h q.1)]
theorem atSL_ok (c n l p s d t i : Int) (h1 : -9223372036854775808 ≤ i) (h2 : i ≤ 1099511627776) : g18 (0, [.i c, .i n, .i l, .i p, .i s, .i d, .i t, .i i]) = some (0, [.i (lV c n l p d t i)]) := atS_ok c n l p s d t i h1 h2
theorem newS_yes {c n l p d t : Int} (h : RightS c n l p d t) (s : Int) : g15 (0, [.i c, .i n, .i l, .i p, .i s, .i d, .i t]) = some (0, [.i 0, .i c, .i n, .i l, .i p, .i s, .i d, .i t, .i 0]) := by
  simp -implicitDefEqProofs only [g15, g15_0, asI_i, asB_b, asE_nil, rightS_ok, altK_0, decide_eq_true h, Bool.not_true, cond_false]
theorem newS_no {c n l p d t : Int} (h : ¬ RightS c n l p d t) (s : Int) : g15 (0, [.i c, .i n, .i l, .i p, .i s, .i d, .i t]) = some (1, [.i 1]) := by
  simp -implicitDefEqProofs only [g15, g15_0, asI_i, asB_b, asE_nil, rightS_ok, altK_0, decide_eq_false h, Bool.not_false, cond_true]
def valsS (c n l p d t : Int) (k : Nat) : List Int := (List.range k).map fun (j : Nat) => lV c n l p d t (j : Int)
theorem vals_len (c n l p d t : Int) (k : Nat) : (valsS c n l p d t k).length = k := by simp [valsS]
theorem vals_succ (c n l p d t : Int) (k : Nat) : valsS c n l p d t (k + 1) = valsS c n l p d t k ++ [lV c n l p d t k] := by simp [valsS, List.range_succ]
theorem vals_get (c n l p d t : Int) {k j : Nat} (h : j < k) : (valsS c n l p d t k)[j]? = some (lV c n l p d t j) := by simp [valsS, h]
theorem runS_ok (c n l p s d t : Int) (M : Nat) (h1 : 1 ≤ M) (hm : M ≤ 100) :
    g19 (0, [.i c, .i n, .i l, .i p, .i s, .i d, .i t, .i M]) = some (1, [.n M, .l (valsS c n l p d t M)]) := by
  have hl : L19_0 (0, [.i M, .i 0, .i c, .i n, .i l, .i p, .i s, .i d, .i t]) = some (1, [.n M, .i c, .i n, .i l, .i p, .i s, .i d, .i t, .l (valsS c n l p d t M)]) := by
    have main := loopL_run (m := 2) (f := f19_0) (fun k => if k = 0 then (0, [.i M, .i 0, .i c, .i n, .i l, .i p, .i s, .i d, .i t]) else (1, [.n k, .i M, .i k, .i c, .i n, .i l, .i p, .i s, .i d, .i t, .l (valsS c n l p d t k)])) M (j := 1) (r := [.n M, .i c, .i n, .i l, .i p, .i s, .i d, .i t, .l (valsS c n l p d t M)]) (fun k hk => ?_) ?_ (by omega)
    · unfold L19_0; exact main
    · have hn := atS_ok c n l p s d t k (by omega) (by omega)
      have w2 : IntKind.i64.wrap ((k : Int) + 1) = ((k + 1 : Nat) : Int) := wrap_nat (n := k + 1) (by omega)
      have k1 : (k : Int) < M := by omega
      simp only [Nat.succ_ne_zero, if_false]
      refine ⟨?_, by show 1 < 2; omega⟩
      by_cases q : k = 0
      · subst q
        have hn' : g14 (0, [.i c, .i n, .i l, .i p, .i s, .i d, .i t, .i 0]) = some (0, [.i (lV c n l p d t (0 : Nat))]) := hn
        have w2' : IntKind.i64.wrap ((0 : Int) + 1) = ((0 + 1 : Nat) : Int) := w2
        have et : valsS c n l p d t (0 + 1) = [lV c n l p d t (0 : Nat)] := rfl
        rw [if_pos rfl, et]
        simp -implicitDefEqProofs only [f19_0, f19_0_0, asI_i, asN_n, asL_l, asE_nil, Bool.cond_decide, if_pos (show (0 : Int) < M by omega), hn', altK_0, w2']
      · rw [if_neg q]
        simp -implicitDefEqProofs only [f19_0, f19_0_1, asI_i, asN_n, asL_l, asE_nil, Bool.cond_decide, if_pos k1, hn, altK_0, w2, if_pos (show (k + 1) * 8 ≤ 70368744177664 by omega), if_pos (show (valsS c n l p d t k).length = k * 1 by rw [vals_len]; omega), vals_succ]
    · rw [if_neg (by omega)]
      simp -implicitDefEqProofs only [f19_0, f19_0_1, asI_i, asN_n, asL_l, asE_nil, Bool.cond_decide, if_neg (Int.lt_irrefl _)]
  simp -implicitDefEqProofs only [g19, g19_0, asI_i, asN_n, asL_l, asE_nil, if_neg (show ¬ (0 : Int) > M by omega), hl, altK_1]
theorem runS_0 (c n l p s d t m : Int) (h : m ≤ 0) : g19 (0, [.i c, .i n, .i l, .i p, .i s, .i d, .i t, .i m]) = some (0, []) := by
  have hl : L19_0 (0, [.i 0, .i 0, .i c, .i n, .i l, .i p, .i s, .i d, .i t]) = some (0, [.i c, .i n, .i l, .i p, .i s, .i d, .i t]) := loopL_last (m := 2) (f := f19_0) (j := 0) (by
    simp -implicitDefEqProofs only [f19_0, f19_0_0, asI_i, asN_n, asL_l, asE_nil, Bool.cond_decide, if_neg (Int.lt_irrefl _)])
  have e : (if (0 : Int) > m then (0 : Int) else m) = 0 := by split <;> omega
  simp -implicitDefEqProofs only [g19, g19_0, asI_i, asN_n, asL_l, asE_nil, e, hl, altK_0]
theorem nextS_ok (c n l p s d t : Int) (k : Nat) (hk : k ≤ 100) : g12 (0, [.i c, .i n, .i l, .i p, .i s, .i d, .i t, .i k]) = some (0, [.i (lV c n l p d t k), .i c, .i n, .i l, .i p, .i s, .i d, .i t, .i (k + 1 : Nat)]) := by
  have hn := atS_ok c n l p s d t k (by omega) (by omega)
  have w2 : IntKind.i64.wrap ((k : Int) + 1) = ((k + 1 : Nat) : Int) := wrap_nat (n := k + 1) (by omega)
  simp -implicitDefEqProofs only [g12, g12_0, asI_i, asE_nil, hn, altK_0, w2]
theorem no_loop {c n l p d t : Int} (h : ¬ RightS c n l p d t) (s : Int) (M : Nat) (hm : M ≤ 100) (e : Int) :
    L6_0 (3, [.i M, .i e, .n M, .i 0, .i c, .i n, .i l, .i p, .i s, .i d, .i t, .l (valsS c n l p d t M)]) = some (4, [.i e, .i c, .i n, .i l, .i p, .i s, .i d, .i t, .l (valsS c n l p d t M)]) := by
  refine loopL_run (m := 4) (f := f6_0) (fun k => (3, [.i M, .i e, .n M, .i k, .i c, .i n, .i l, .i p, .i s, .i d, .i t, .l (valsS c n l p d t M)])) M (fun k hk => ⟨?_, by show 3 < 4; omega⟩) ?_ (by omega)
  · have hx := vals_get c n l p d t hk
    have hz : lV c n l p d t k = 0 := if_neg (fun q => h q.1)
    rw [hz] at hx
    have hne : ∀ x : Int, (x ≠ x) = False := fun x => by simp
    have w2 : IntKind.i64.wrap ((k : Int) + 1) = ((k + 1 : Nat) : Int) := wrap_nat (n := k + 1) (by omega)
    have k1 : (k : Int) < M := by omega
    have k3 : (0 : Int) ≤ k ∧ (k : Int) < M := by omega
    simp -implicitDefEqProofs only [f6_0, f6_0_3, asI_i, asN_n, asL_l, asE_nil, Bool.cond_decide, if_pos k1, if_pos k3, Int.toNat_natCast, hx, optK_some, hne, if_false, w2]
  · simp -implicitDefEqProofs only [f6_0, f6_0_3, asI_i, asN_n, asL_l, asE_nil, Bool.cond_decide, if_neg (Int.lt_irrefl _)]
theorem no_loop0 (c n l p s d t e : Int) :
    L6_0 (2, [.i 0, .i e, .i 0, .i c, .i n, .i l, .i p, .i s, .i d, .i t]) = some (3, [.i e, .i c, .i n, .i l, .i p, .i s, .i d, .i t]) := loopL_last (m := 4) (f := f6_0) (j := 3) (by
    simp -implicitDefEqProofs only [f6_0, f6_0_2, asI_i, asN_n, asL_l, asE_nil, Bool.cond_decide, if_neg (Int.lt_irrefl _)])
theorem yes_loop (c n l p s d t : Int) (M : Nat) (hm : M ≤ 100) :
    L6_1 (1, [.i M, .n M, .i 0, .i c, .i n, .i l, .i p, .i s, .i d, .i t, .i c, .i n, .i l, .i p, .i s, .i d, .i t, .i 0, .l (valsS c n l p d t M)]) = some (2, [.i c, .i n, .i l, .i p, .i s, .i d, .i t, .i c, .i n, .i l, .i p, .i s, .i d, .i t, .i M, .l (valsS c n l p d t M)]) := by
  refine loopL_run (m := 2) (f := f6_1) (fun k => (1, [.i M, .n M, .i k, .i c, .i n, .i l, .i p, .i s, .i d, .i t, .i c, .i n, .i l, .i p, .i s, .i d, .i t, .i k, .l (valsS c n l p d t M)])) M (fun k hk => ⟨?_, by show 1 < 2; omega⟩) ?_ (by omega)
  · have hx := vals_get c n l p d t hk
    have hb := lV_in c n l p d t k
    have h1 := nextS_ok c n l p s d t k (by omega)
    have h2 := atSL_ok c n l p s d t k (by omega) (by omega)
    have hne : ∀ x : Int, (x ≠ x) = False := fun x => by simp
    have w2 : IntKind.i64.wrap ((k : Int) + 1) = ((k + 1 : Nat) : Int) := wrap_nat (n := k + 1) (by omega)
    have k1 : (k : Int) < M := by omega
    have k3 : (0 : Int) ≤ k ∧ (k : Int) < M := by omega
    generalize lV c n l p d t k = v at *
    simp -implicitDefEqProofs only [f6_1, f6_1_1, asI_i, asN_n, asL_l, asE_nil, Bool.cond_decide, if_pos k1, if_pos k3, Int.toNat_natCast, h1, h2, altK_0, hx, optK_some, hne, if_false, if_neg (show ¬ v < -256 by omega), if_neg (show ¬ 256 < v by omega), g13, g13_0, w2]
  · simp -implicitDefEqProofs only [f6_1, f6_1_1, asI_i, asN_n, asL_l, asE_nil, Bool.cond_decide, if_neg (Int.lt_irrefl _)]
theorem yes_loop0 (c n l p s d t : Int) :
    L6_1 (0, [.i 0, .i 0, .i c, .i n, .i l, .i p, .i s, .i d, .i t, .i c, .i n, .i l, .i p, .i s, .i d, .i t, .i 0]) = some (0, [.i c, .i n, .i l, .i p, .i s, .i d, .i t, .i c, .i n, .i l, .i p, .i s, .i d, .i t, .i 0]) := loopL_last (m := 2) (f := f6_1) (j := 0) (by
    simp -implicitDefEqProofs only [f6_1, f6_1_0, asI_i, asN_n, asL_l, asE_nil, Bool.cond_decide, if_neg (Int.lt_irrefl _)])
theorem altK_3' {α : Type} (r : List Leaf) (k0 k1 k2 k3 : List Leaf → α) (ks : List (List Leaf → α)) (z : α) : altK (some (3, r)) (k0 :: k1 :: k2 :: k3 :: ks) z = k3 r := rfl
theorem altK_4' {α : Type} (r : List Leaf) (k0 k1 k2 k3 k4 : List Leaf → α) (ks : List (List Leaf → α)) (z : α) : altK (some (4, r)) (k0 :: k1 :: k2 :: k3 :: k4 :: ks) z = k4 r := rfl
theorem swings_yes_yes (c n l p s d t a m : Int) (ha : In64 a) (hm : In64 m) (h : RightS c n l p d t) (q : a ≤ 1099511627776) : g6 (0, [.i c, .i n, .i l, .i p, .i s, .i d, .i t, .i a, .i m]) = some (0, [.b true]) := by
  unfold In64 at ha hm
  have hne : ∀ x : Int, (x ≠ x) = False := fun x => by simp
  have hneb : ∀ x : Bool, (x ≠ x) = False := fun x => by simp
  have r1 := rightS_ok c n l p s d t
  have r2 := rightSL_ok c n l p s d t
  have h100 : (((100 : Nat) : Int) ≠ 100) = False := by simp
  rw [decide_eq_true h] at r1 r2
  have hw := newS_yes h s
  have e1 := atS_ok c n l p s d t a (by omega) q
  have e2 := atSL_ok c n l p s d t a (by omega) q
  by_cases m1 : 100 < m
  · have hr := runS_ok c n l p s d t 100 (by omega) (by omega)
    have hl := yes_loop c n l p s d t 100 (by omega)
    have hr' : g19 (0, [.i c, .i n, .i l, .i p, .i s, .i d, .i t, .i 100]) = _ := hr
    have hl' : L6_1 (1, [.i 100, .n 100, .i 0, .i c, .i n, .i l, .i p, .i s, .i d, .i t, .i c, .i n, .i l, .i p, .i s, .i d, .i t, .i 0, .l (valsS c n l p d t 100)]) = _ := hl
    simp -implicitDefEqProofs only [g6, g6_0, asI_i, asN_n, asL_l, asB_b, asE_nil, Bool.cond_decide, hw, r1, r2, altK_0, altK_1, altK_2, altK_3', altK_4', hne, hneb, if_false, if_true, Bool.not_true, Bool.not_false, cond_true, cond_false, awakeL_ok, if_pos q, e1, e2, if_pos m1, hr', h100, hl']
  · by_cases m2 : m < 0
    · have hr := runS_0 c n l p s d t m (by omega)
      have hl := yes_loop0 c n l p s d t
      simp -implicitDefEqProofs only [g6, g6_0, asI_i, asN_n, asL_l, asB_b, asE_nil, Bool.cond_decide, hw, r1, r2, altK_0, altK_1, altK_2, altK_3', altK_4', hne, hneb, if_false, if_true, Bool.not_true, Bool.not_false, cond_true, cond_false, awakeL_ok, if_pos q, e1, e2, if_neg m1, if_pos m2, hr, hl]
    · by_cases m3 : m = 0
      · subst m3
        have hr := runS_0 c n l p s d t 0 (by omega)
        have hl := yes_loop0 c n l p s d t
        simp -implicitDefEqProofs only [g6, g6_0, asI_i, asN_n, asL_l, asB_b, asE_nil, Bool.cond_decide, hw, r1, r2, altK_0, altK_1, altK_2, altK_3', altK_4', hne, hneb, if_false, if_true, Bool.not_true, Bool.not_false, cond_true, cond_false, awakeL_ok, if_pos q, e1, e2, if_neg m1, if_neg m2, hr, hl]
      · obtain ⟨M, rfl⟩ : ∃ M : Nat, m = M := ⟨m.toNat, by omega⟩
        have hr := runS_ok c n l p s d t M (by omega) (by omega)
        have hl := yes_loop c n l p s d t M (by omega)
        simp -implicitDefEqProofs only [g6, g6_0, asI_i, asN_n, asL_l, asB_b, asE_nil, Bool.cond_decide, hw, r1, r2, altK_0, altK_1, altK_2, altK_3', altK_4', hne, hneb, if_false, if_true, Bool.not_true, Bool.not_false, cond_true, cond_false, awakeL_ok, if_pos q, e1, e2, if_neg m1, if_neg m2, hr, hl]
theorem swings_yes_no (c n l p s d t a m : Int) (ha : In64 a) (hm : In64 m) (h : RightS c n l p d t) (q : ¬ a ≤ 1099511627776) : g6 (0, [.i c, .i n, .i l, .i p, .i s, .i d, .i t, .i a, .i m]) = some (0, [.b true]) := by
  unfold In64 at ha hm
  have hne : ∀ x : Int, (x ≠ x) = False := fun x => by simp
  have hneb : ∀ x : Bool, (x ≠ x) = False := fun x => by simp
  have r1 := rightS_ok c n l p s d t
  have r2 := rightSL_ok c n l p s d t
  have h100 : (((100 : Nat) : Int) ≠ 100) = False := by simp
  rw [decide_eq_true h] at r1 r2
  have hw := newS_yes h s
  by_cases m1 : 100 < m
  · have hr := runS_ok c n l p s d t 100 (by omega) (by omega)
    have hl := yes_loop c n l p s d t 100 (by omega)
    have hr' : g19 (0, [.i c, .i n, .i l, .i p, .i s, .i d, .i t, .i 100]) = _ := hr
    have hl' : L6_1 (1, [.i 100, .n 100, .i 0, .i c, .i n, .i l, .i p, .i s, .i d, .i t, .i c, .i n, .i l, .i p, .i s, .i d, .i t, .i 0, .l (valsS c n l p d t 100)]) = _ := hl
    simp -implicitDefEqProofs only [g6, g6_0, asI_i, asN_n, asL_l, asB_b, asE_nil, Bool.cond_decide, hw, r1, r2, altK_0, altK_1, altK_2, altK_3', altK_4', hne, hneb, if_false, if_true, Bool.not_true, Bool.not_false, cond_true, cond_false, awakeL_ok, if_neg q, if_pos m1, hr', h100, hl']
  · by_cases m2 : m < 0
    · have hr := runS_0 c n l p s d t m (by omega)
      have hl := yes_loop0 c n l p s d t
      simp -implicitDefEqProofs only [g6, g6_0, asI_i, asN_n, asL_l, asB_b, asE_nil, Bool.cond_decide, hw, r1, r2, altK_0, altK_1, altK_2, altK_3', altK_4', hne, hneb, if_false, if_true, Bool.not_true, Bool.not_false, cond_true, cond_false, awakeL_ok, if_neg q, if_neg m1, if_pos m2, hr, hl]
    · by_cases m3 : m = 0
      · subst m3
        have hr := runS_0 c n l p s d t 0 (by omega)
        have hl := yes_loop0 c n l p s d t
        simp -implicitDefEqProofs only [g6, g6_0, asI_i, asN_n, asL_l, asB_b, asE_nil, Bool.cond_decide, hw, r1, r2, altK_0, altK_1, altK_2, altK_3', altK_4', hne, hneb, if_false, if_true, Bool.not_true, Bool.not_false, cond_true, cond_false, awakeL_ok, if_neg q, if_neg m1, if_neg m2, hr, hl]
      · obtain ⟨M, rfl⟩ : ∃ M : Nat, m = M := ⟨m.toNat, by omega⟩
        have hr := runS_ok c n l p s d t M (by omega) (by omega)
        have hl := yes_loop c n l p s d t M (by omega)
        simp -implicitDefEqProofs only [g6, g6_0, asI_i, asN_n, asL_l, asB_b, asE_nil, Bool.cond_decide, hw, r1, r2, altK_0, altK_1, altK_2, altK_3', altK_4', hne, hneb, if_false, if_true, Bool.not_true, Bool.not_false, cond_true, cond_false, awakeL_ok, if_neg q, if_neg m1, if_neg m2, hr, hl]
theorem swings_no_yes (c n l p s d t a m : Int) (ha : In64 a) (hm : In64 m) (h : ¬ RightS c n l p d t) (q : a ≤ 1099511627776) : g6 (0, [.i c, .i n, .i l, .i p, .i s, .i d, .i t, .i a, .i m]) = some (0, [.b true]) := by
  unfold In64 at ha hm
  have hne : ∀ x : Int, (x ≠ x) = False := fun x => by simp
  have hneb : ∀ x : Bool, (x ≠ x) = False := fun x => by simp
  have r1 := rightS_ok c n l p s d t
  have r2 := rightSL_ok c n l p s d t
  have h100 : (((100 : Nat) : Int) ≠ 100) = False := by simp
  rw [decide_eq_false h] at r1 r2
  have hw := newS_no h s
  have e1 := atS_ok c n l p s d t a (by omega) q
  have e2 := atSL_ok c n l p s d t a (by omega) q
  by_cases m1 : 100 < m
  · have hr := runS_ok c n l p s d t 100 (by omega) (by omega)
    have hl := no_loop h s 100 (by omega) 1
    have hr' : g19 (0, [.i c, .i n, .i l, .i p, .i s, .i d, .i t, .i 100]) = _ := hr
    have hl' : L6_0 (3, [.i 100, .i 1, .n 100, .i 0, .i c, .i n, .i l, .i p, .i s, .i d, .i t, .l (valsS c n l p d t 100)]) = _ := hl
    simp -implicitDefEqProofs only [g6, g6_0, asI_i, asN_n, asL_l, asB_b, asE_nil, Bool.cond_decide, hw, r1, r2, altK_0, altK_1, altK_2, altK_3', altK_4', hne, hneb, if_false, if_true, Bool.not_true, Bool.not_false, cond_true, cond_false, awakeL_ok, if_pos q, e1, e2, if_pos m1, hr', h100, hl']
  · by_cases m2 : m < 0
    · have hr := runS_0 c n l p s d t m (by omega)
      have hl := no_loop0 c n l p s d t 1
      simp -implicitDefEqProofs only [g6, g6_0, asI_i, asN_n, asL_l, asB_b, asE_nil, Bool.cond_decide, hw, r1, r2, altK_0, altK_1, altK_2, altK_3', altK_4', hne, hneb, if_false, if_true, Bool.not_true, Bool.not_false, cond_true, cond_false, awakeL_ok, if_pos q, e1, e2, if_neg m1, if_pos m2, hr, hl]
    · by_cases m3 : m = 0
      · subst m3
        have hr := runS_0 c n l p s d t 0 (by omega)
        have hl := no_loop0 c n l p s d t 1
        simp -implicitDefEqProofs only [g6, g6_0, asI_i, asN_n, asL_l, asB_b, asE_nil, Bool.cond_decide, hw, r1, r2, altK_0, altK_1, altK_2, altK_3', altK_4', hne, hneb, if_false, if_true, Bool.not_true, Bool.not_false, cond_true, cond_false, awakeL_ok, if_pos q, e1, e2, if_neg m1, if_neg m2, hr, hl]
      · obtain ⟨M, rfl⟩ : ∃ M : Nat, m = M := ⟨m.toNat, by omega⟩
        have hr := runS_ok c n l p s d t M (by omega) (by omega)
        have hl := no_loop h s M (by omega) 1
        simp -implicitDefEqProofs only [g6, g6_0, asI_i, asN_n, asL_l, asB_b, asE_nil, Bool.cond_decide, hw, r1, r2, altK_0, altK_1, altK_2, altK_3', altK_4', hne, hneb, if_false, if_true, Bool.not_true, Bool.not_false, cond_true, cond_false, awakeL_ok, if_pos q, e1, e2, if_neg m1, if_neg m2, hr, hl]
theorem swings_no_no (c n l p s d t a m : Int) (ha : In64 a) (hm : In64 m) (h : ¬ RightS c n l p d t) (q : ¬ a ≤ 1099511627776) : g6 (0, [.i c, .i n, .i l, .i p, .i s, .i d, .i t, .i a, .i m]) = some (0, [.b true]) := by
  unfold In64 at ha hm
  have hne : ∀ x : Int, (x ≠ x) = False := fun x => by simp
  have hneb : ∀ x : Bool, (x ≠ x) = False := fun x => by simp
  have r1 := rightS_ok c n l p s d t
  have r2 := rightSL_ok c n l p s d t
  have h100 : (((100 : Nat) : Int) ≠ 100) = False := by simp
  rw [decide_eq_false h] at r1 r2
  have hw := newS_no h s
  by_cases m1 : 100 < m
  · have hr := runS_ok c n l p s d t 100 (by omega) (by omega)
    have hl := no_loop h s 100 (by omega) 1
    have hr' : g19 (0, [.i c, .i n, .i l, .i p, .i s, .i d, .i t, .i 100]) = _ := hr
    have hl' : L6_0 (3, [.i 100, .i 1, .n 100, .i 0, .i c, .i n, .i l, .i p, .i s, .i d, .i t, .l (valsS c n l p d t 100)]) = _ := hl
    simp -implicitDefEqProofs only [g6, g6_0, asI_i, asN_n, asL_l, asB_b, asE_nil, Bool.cond_decide, hw, r1, r2, altK_0, altK_1, altK_2, altK_3', altK_4', hne, hneb, if_false, if_true, Bool.not_true, Bool.not_false, cond_true, cond_false, awakeL_ok, if_neg q, if_pos m1, hr', h100, hl']
  · by_cases m2 : m < 0
    · have hr := runS_0 c n l p s d t m (by omega)
      have hl := no_loop0 c n l p s d t 1
      simp -implicitDefEqProofs only [g6, g6_0, asI_i, asN_n, asL_l, asB_b, asE_nil, Bool.cond_decide, hw, r1, r2, altK_0, altK_1, altK_2, altK_3', altK_4', hne, hneb, if_false, if_true, Bool.not_true, Bool.not_false, cond_true, cond_false, awakeL_ok, if_neg q, if_neg m1, if_pos m2, hr, hl]
    · by_cases m3 : m = 0
      · subst m3
        have hr := runS_0 c n l p s d t 0 (by omega)
        have hl := no_loop0 c n l p s d t 1
        simp -implicitDefEqProofs only [g6, g6_0, asI_i, asN_n, asL_l, asB_b, asE_nil, Bool.cond_decide, hw, r1, r2, altK_0, altK_1, altK_2, altK_3', altK_4', hne, hneb, if_false, if_true, Bool.not_true, Bool.not_false, cond_true, cond_false, awakeL_ok, if_neg q, if_neg m1, if_neg m2, hr, hl]
      · obtain ⟨M, rfl⟩ : ∃ M : Nat, m = M := ⟨m.toNat, by omega⟩
        have hr := runS_ok c n l p s d t M (by omega) (by omega)
        have hl := no_loop h s M (by omega) 1
        simp -implicitDefEqProofs only [g6, g6_0, asI_i, asN_n, asL_l, asB_b, asE_nil, Bool.cond_decide, hw, r1, r2, altK_0, altK_1, altK_2, altK_3', altK_4', hne, hneb, if_false, if_true, Bool.not_true, Bool.not_false, cond_true, cond_false, awakeL_ok, if_neg q, if_neg m1, if_neg m2, hr, hl]
theorem swings (c n l p s d t a m : Int) (ha : In64 a) (hm : In64 m) : g6 (0, [.i c, .i n, .i l, .i p, .i s, .i d, .i t, .i a, .i m]) = some (0, [.b true]) := by
  by_cases h : RightS c n l p d t
  · by_cases q : a ≤ 1099511627776
    · exact swings_yes_yes c n l p s d t a m ha hm h q
    · exact swings_yes_no c n l p s d t a m ha hm h q
  · by_cases q : a ≤ 1099511627776
    · exact swings_no_yes c n l p s d t a m ha hm h q
    · exact swings_no_no c n l p s d t a m ha hm h q
theorem swings_law (c n l p s d t a m : Int) (ha : In64 a) (hm : In64 m) : ∃ k, evF tab k 6 [.agg [.int .i64 c, .int .i64 n, .int .i64 l, .int .i64 p, .int .u32 s, .int .i64 d, .int .i64 t], .int .i64 a, .int .i64 m] [] = some (.bool true, [], []) :=
  ⟨_, (ok6 0).ret (i := 0) (ls := [.i c, .i n, .i l, .i p, .i s, .i d, .i t, .i a, .i m]) (j := 0) (r := [.b true]) (swings c n l p s d t a m ha hm) rfl rfl rfl rfl⟩
end Go.Proofs.Ytkgcilalmhejcaa
