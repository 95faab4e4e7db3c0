/-
  What a wave's sample at a place is, and that it is not louder than the wave. Conditions: none.
-/
import Derived.Test.YtgmlibigknnbmaaNumc
namespace Go.Proofs.Ytgmlibigknnbmaa
open Go Go.Sx
set_option maxRecDepth 100000
set_option linter.unusedVariables false
attribute [local simp] asI_i asB_b asL_l asN_n asS_s asE_nil altK_none altK_0 altK_1 altK_2 altK_3 optK_some optK_none Bool.cond_decide Bool.cond_not Int.toNat_natCast
set_option linter.unusedSimpArgs false
def bowV (x n : Int) : Int := Int.tdiv (x * (n - x) * 65536) (n * n)
theorem bow_facts {x n : Int} (hx : 0 ≤ x ∧ x ≤ n) (hn : 1 ≤ n ∧ n ≤ 65536) : (0 ≤ x * (n - x) ∧ x * (n - x) ≤ 4294967296) ∧ (1 ≤ n * n ∧ n * n ≤ 4294967296) ∧ 0 ≤ bowV x n ∧ bowV x n ≤ 16384 := by
  have h1 : 0 ≤ x * (n - x) := Int.mul_nonneg hx.1 (by omega)
  have h2 : 1 ≤ n * n := by
    have := Int.mul_le_mul hn.1 hn.1 (by omega) (by omega : (0 : Int) ≤ n)
    omega
  have h3 : n * n ≤ 65536 * 65536 := Int.mul_le_mul hn.2 hn.2 (by omega) (by omega)
  have h4 : 4 * (x * (n - x)) ≤ n * n := by
    have e : n * n - 4 * (x * (n - x)) = (n - 2 * x) * (n - 2 * x) := by grind
    have s : 0 ≤ (n - 2 * x) * (n - 2 * x) := by
      rcases Int.le_total 0 (n - 2 * x) with h | h
      · exact Int.mul_nonneg h h
      · exact Int.mul_nonneg_of_nonpos_of_nonpos h h
    omega
  have hq : x * (n - x) * 65536 ≤ 16384 * (n * n) := by omega
  unfold bowV
  rw [Int.tdiv_eq_ediv_of_nonneg (by omega)]
  exact ⟨⟨h1, by omega⟩, ⟨h2, by omega⟩, Int.ediv_nonneg (by omega) (by omega), Int.ediv_le_of_le_mul (by omega) hq⟩
theorem bow_ok {x n : Int} (hx : 0 ≤ x ∧ x ≤ n) (hn : 1 ≤ n ∧ n ≤ 65536) : g23 (0, [.i x, .i n]) = some (0, [.i (bowV x n)]) := by
  obtain ⟨h1, h2, h3⟩ := bow_facts hx hn
  have w1 : IntKind.i64.wrap (n - x) = n - x := wrap64 (by omega) (by omega)
  have w2 : IntKind.i64.wrap (x * (n - x)) = x * (n - x) := wrap64 (by omega) (by omega)
  have w3 : IntKind.i64.wrap (x * (n - x) * 65536) = x * (n - x) * 65536 := wrap64 (by omega) (by omega)
  have w4 : IntKind.i64.wrap (n * n) = n * n := wrap64 (by omega) (by omega)
  have w5 : IntKind.i64.wrap (bowV x n) = bowV x n := wrap64 (by omega) (by omega)
  unfold bowV at w5
  simp -implicitDefEqProofs only [g23, g23_0, asI_i, asE_nil, Bool.cond_decide, if_neg (show ¬ n < 1 by omega), w1, w2, w3, w4, w5, if_neg (show ¬ n * n = 0 by omega), bowV]
theorem bowL_ok {x n : Int} (hx : 0 ≤ x ∧ x ≤ n) (hn : 1 ≤ n ∧ n ≤ 65536) : g24 (0, [.i x, .i n]) = some (0, [.i (bowV x n)]) := by
  obtain ⟨h1, h2, h3⟩ := bow_facts hx hn
  have w1 : IntKind.i64.wrap (n - x) = n - x := wrap64 (by omega) (by omega)
  have w2 : IntKind.i64.wrap (x * (n - x)) = x * (n - x) := wrap64 (by omega) (by omega)
  have w3 : IntKind.i64.wrap (x * (n - x) * 65536) = x * (n - x) * 65536 := wrap64 (by omega) (by omega)
  have w4 : IntKind.i64.wrap (n * n) = n * n := wrap64 (by omega) (by omega)
  have w5 : IntKind.i64.wrap (bowV x n) = bowV x n := wrap64 (by omega) (by omega)
  unfold bowV at w5
  simp -implicitDefEqProofs only [g24, g24_0, asI_i, asE_nil, Bool.cond_decide, w1, w2, w3, w4, w5, if_neg (show ¬ n * n = 0 by omega), bowV]
def RightW (c n l p : Int) : Prop := 0 ≤ c ∧ c ≤ 4 ∧ 1 ≤ n ∧ n ≤ 65536 ∧ 0 ≤ l ∧ l ≤ 32767 ∧ 0 ≤ p ∧ p < n
instance (c n l p : Int) : Decidable (RightW c n l p) := by unfold RightW; infer_instance
theorem right_ok (c n l p s : Int) : g7 (0, [.i c, .i n, .i l, .i p, .i s]) = some (0, [.b (decide (RightW c n l p))]) := by
  simp -implicitDefEqProofs only [g7, g7_0, asI_i, asE_nil, Bool.cond_decide]
  by_cases h : RightW c n l p
  · rw [decide_eq_true h]
    unfold RightW at h
    rw [if_pos (by omega), if_pos (by omega), if_pos (by omega), if_pos (by omega), if_pos (by omega), if_pos (by omega), if_pos (by omega), decide_eq_true (by omega)]
  · rw [decide_eq_false h]
    unfold RightW at h
    repeat' split
    all_goals first | rfl | rw [decide_eq_false (by omega)]
theorem rightL_ok (c n l p s : Int) : g8 (0, [.i c, .i n, .i l, .i p, .i s]) = some (0, [.b (decide (RightW c n l p))]) := by
  have := right_ok c n l p s
  exact this
def atV (c n l p i : Int) : Int :=
  if c = 0 then (if 2 * ((i + p) % n) < n then l else 0 - l)
  else if c = 1 then 2 * l * ((i + p) % n) / n - l
  else if c = 2 then (if 2 * ((i + p) % n) < n then 4 * l * ((i + p) % n) / n - l else 3 * l - 4 * l * ((i + p) % n) / n)
  else if c = 3 then (if 2 * ((i + p) % n) < n then (l * bowV (2 * ((i + p) % n)) n + 8192) / 16384 else 0 - (l * bowV (2 * ((i + p) % n) - n) n + 8192) / 16384)
  else 0
theorem lk_facts {l k n : Int} (hl : 0 ≤ l ∧ l ≤ 32767) (hk : 0 ≤ k ∧ k < n) (hn : 1 ≤ n ∧ n ≤ 65536) : 0 ≤ l * k ∧ l * k ≤ 2147418112 ∧ l * k ≤ l * n ∧ (2 * k < n → 2 * (l * k) ≤ l * n) ∧ (n ≤ 2 * k → l * n ≤ 2 * (l * k)) := by
  have h1 : 0 ≤ l * k := Int.mul_nonneg hl.1 hk.1
  have h2 : l * k ≤ 32767 * 65536 := Int.mul_le_mul hl.2 (by omega) hk.1 (by omega)
  have h3 : l * k ≤ l * n := Int.mul_le_mul_of_nonneg_left (by omega) hl.1
  refine ⟨h1, by omega, h3, fun h => ?_, fun h => ?_⟩
  · have := Int.mul_le_mul_of_nonneg_left (show 2 * k ≤ n by omega) hl.1
    rw [Int.mul_left_comm] at this
    exact this
  · have := Int.mul_le_mul_of_nonneg_left h hl.1
    rw [Int.mul_left_comm] at this
    exact this
theorem lb_facts {l b : Int} (hl : 0 ≤ l ∧ l ≤ 32767) (hb : 0 ≤ b ∧ b ≤ 16384) : 0 ≤ l * b ∧ l * b ≤ 536854528 ∧ l * b ≤ l * 16384 := by
  have h1 : 0 ≤ l * b := Int.mul_nonneg hl.1 hb.1
  have h2 : l * b ≤ 32767 * 16384 := Int.mul_le_mul hl.2 hb.2 hb.1 (by omega)
  have h3 : l * b ≤ l * 16384 := Int.mul_le_mul_of_nonneg_left hb.2 hl.1
  exact ⟨h1, by omega, h3⟩
theorem two_l (l k : Int) : 2 * l * k = 2 * (l * k) := Int.mul_assoc _ _ _
theorem four_l (l k : Int) : 4 * l * k = 4 * (l * k) := Int.mul_assoc _ _ _
theorem at_in {c n l p i : Int} (h : RightW c n l p) : -l ≤ atV c n l p i ∧ atV c n l p i ≤ l := by
  unfold RightW at h
  have hk : 0 ≤ (i + p) % n ∧ (i + p) % n < n := ⟨Int.emod_nonneg _ (by omega), Int.emod_lt_of_pos _ (by omega)⟩
  unfold atV
  generalize (i + p) % n = k at *
  obtain ⟨f1, f2, f3, f4, f5⟩ := lk_facts (l := l) (k := k) (n := n) (by omega) hk (by omega)
  rw [two_l, four_l]
  generalize l * k = m at *
  have hln : 2 * (l * n) = 2 * l * n := (Int.mul_assoc _ _ _).symm
  have hln4 : 4 * (l * n) = 4 * l * n := (Int.mul_assoc _ _ _).symm
  split
  · split <;> omega
  · split
    · have a1 : 0 ≤ 2 * m / n := Int.ediv_nonneg (by omega) (by omega)
      have a2 : 2 * m / n ≤ 2 * l := Int.ediv_le_of_le_mul (by omega) (by omega)
      omega
    · split
      · have a1 : 0 ≤ 4 * m / n := Int.ediv_nonneg (by omega) (by omega)
        split
        · have a2 : 4 * m / n ≤ 2 * l := Int.ediv_le_of_le_mul (by omega) (by have := f4 (by assumption); omega)
          omega
        · have a2 : 4 * m / n ≤ 4 * l := Int.ediv_le_of_le_mul (by omega) (by omega)
          have a3 : 2 * l ≤ 4 * m / n := Int.le_ediv_of_mul_le (by omega) (by have := f5 (by omega); omega)
          omega
      · split
        · split
          · have hb := (bow_facts (x := 2 * k) (n := n) (by omega) (by omega)).2.2
            have := lb_facts (l := l) (by omega) hb
            omega
          · have hb := (bow_facts (x := 2 * k - n) (n := n) (by omega) (by omega)).2.2
            have := lb_facts (l := l) (by omega) hb
            omega
        · omega
theorem at_ok {c n l p s i : Int} (h : RightW c n l p) (hi : -4611686018427387904 ≤ i ∧ i ≤ 4611686018427387904) : g10 (0, [.i c, .i n, .i l, .i p, .i s, .i i]) = some (0, [.i (atV c n l p i)]) := by
  have hr := right_ok c n l p s
  rw [decide_eq_true h] at hr
  unfold RightW at h
  have hk : 0 ≤ (i + p) % n ∧ (i + p) % n < n := ⟨Int.emod_nonneg _ (by omega), Int.emod_lt_of_pos _ (by omega)⟩
  have w1 : IntKind.i64.wrap (i + p) = i + p := wrap64 (by omega) (by omega)
  have hm := mod_ok (i + p) n (by omega)
  simp -implicitDefEqProofs only [g10, g10_0, asI_i, asB_b, asE_nil, Bool.cond_decide, hr, altK_0, Bool.not_true, cond_false, w1, hm]
  unfold atV
  generalize (i + p) % n = k at *
  obtain ⟨f1, f2, f3, f4, f5⟩ := lk_facts (l := l) (k := k) (n := n) (by omega) hk (by omega)
  have w2 : IntKind.i64.wrap (2 * k) = 2 * k := wrap64 (by omega) (by omega)
  have w3 : IntKind.i64.wrap (2 * l) = 2 * l := wrap64 (by omega) (by omega)
  have w4 : IntKind.i64.wrap (4 * l) = 4 * l := wrap64 (by omega) (by omega)
  have w5 : IntKind.i64.wrap (3 * l) = 3 * l := wrap64 (by omega) (by omega)
  have w6 : IntKind.i64.wrap (2 * l * k) = 2 * l * k := by rw [two_l]; exact wrap64 (by omega) (by omega)
  have w7 : IntKind.i64.wrap (4 * l * k) = 4 * l * k := by rw [four_l]; exact wrap64 (by omega) (by omega)
  have w8 : IntKind.i64.wrap (2 * k - n) = 2 * k - n := wrap64 (by omega) (by omega)
  have w9 : IntKind.i64.wrap (0 - l) = 0 - l := wrap64 (by omega) (by omega)
  have n1 := floor_ok (2 * l * k) n (by unfold In64; rw [two_l]; omega) (by omega)
  have n2 := floor_ok (4 * l * k) n (by unfold In64; rw [four_l]; omega) (by omega)
  have d1 : 0 ≤ 2 * l * k / n ∧ 2 * l * k / n ≤ 4294836224 := by rw [two_l]; exact ⟨Int.ediv_nonneg (by omega) (by omega), by have := Int.ediv_le_self (a := 2 * (l * k)) n (by omega); omega⟩
  have d2 : 0 ≤ 4 * l * k / n ∧ 4 * l * k / n ≤ 8589672448 := by rw [four_l]; exact ⟨Int.ediv_nonneg (by omega) (by omega), by have := Int.ediv_le_self (a := 4 * (l * k)) n (by omega); omega⟩
  have v1 : IntKind.i64.wrap (2 * l * k / n - l) = 2 * l * k / n - l := wrap64 (by omega) (by omega)
  have v2 : IntKind.i64.wrap (4 * l * k / n - l) = 4 * l * k / n - l := wrap64 (by omega) (by omega)
  have v3 : IntKind.i64.wrap (3 * l - 4 * l * k / n) = 3 * l - 4 * l * k / n := wrap64 (by omega) (by omega)
  by_cases c4 : c = 4
  · subst c4; rfl
  rw [if_neg c4]
  by_cases c0 : c = 0
  · rw [if_pos c0, if_pos c0, w2, w9]
    by_cases q : 2 * k < n
    · rw [if_pos q, if_pos q]
    · rw [if_neg q, if_neg q]
  rw [if_neg c0, if_neg c0]
  by_cases c1 : c = 1
  · simp -implicitDefEqProofs only [if_pos c1, w3, w6, n1, altK_0, asI_i, asE_nil, v1]
  rw [if_neg c1, if_neg c1]
  by_cases c2 : c = 2
  · rw [if_pos c2, if_pos c2]
    by_cases q : 2 * k < n
    · simp -implicitDefEqProofs only [w2, if_pos q, w4, w7, n2, altK_0, asI_i, asE_nil, v2]
    · simp -implicitDefEqProofs only [w2, if_neg q, w4, w5, w7, n2, altK_0, asI_i, asE_nil, v3]
  have c3 : c = 3 := by omega
  rw [if_neg c2, if_neg c2, if_pos c3]
  by_cases q : 2 * k < n
  · have hb := bow_ok (x := 2 * k) (n := n) (by omega) (by omega)
    have hf := (bow_facts (x := 2 * k) (n := n) (by omega) (by omega)).2.2
    obtain ⟨e1, e2, e3⟩ := lb_facts (l := l) (by omega) hf
    have w10 : IntKind.i64.wrap (l * bowV (2 * k) n) = l * bowV (2 * k) n := wrap64 (by omega) (by omega)
    have hr := round14 (l * bowV (2 * k) n) (by unfold In64; omega)
    simp -implicitDefEqProofs only [w2, if_pos q, hb, altK_0, asI_i, asE_nil, w10, hr]
  · have hb := bow_ok (x := 2 * k - n) (n := n) (by omega) (by omega)
    have hf := (bow_facts (x := 2 * k - n) (n := n) (by omega) (by omega)).2.2
    obtain ⟨e1, e2, e3⟩ := lb_facts (l := l) (by omega) hf
    have w10 : IntKind.i64.wrap (l * bowV (2 * k - n) n) = l * bowV (2 * k - n) n := wrap64 (by omega) (by omega)
    have hr := round14 (l * bowV (2 * k - n) n) (by unfold In64; omega)
    have w11 : IntKind.i64.wrap (0 - (l * bowV (2 * k - n) n + 8192) / 16384) = 0 - (l * bowV (2 * k - n) n + 8192) / 16384 := wrap64 (by omega) (by omega)
    simp -implicitDefEqProofs only [w2, if_neg q, w8, hb, altK_0, asI_i, asE_nil, w10, hr, w11]
theorem at_no {c n l p s i : Int} (h : ¬ RightW c n l p) : g10 (0, [.i c, .i n, .i l, .i p, .i s, .i i]) = some (0, [.i 0]) := by
  have hr := right_ok c n l p s
  rw [decide_eq_false h] at hr
  simp -implicitDefEqProofs only [g10, g10_0, asI_i, asB_b, asE_nil, Bool.cond_decide, hr, altK_0, Bool.not_false, cond_true]
end Go.Proofs.Ytgmlibigknnbmaa
