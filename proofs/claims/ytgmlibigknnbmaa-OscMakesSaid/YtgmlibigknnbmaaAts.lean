/-
  The law of any wave's sample at any place. Conditions: none.
-/
import Derived.Test.YtgmlibigknnbmaaOscAt
namespace Go.Proofs.Ytgmlibigknnbmaa
open Go Go.Sx
set_option maxRecDepth 100000
set_option linter.unusedVariables false
attribute [local simp] asI_i asB_b asL_l asN_n asS_s asE_nil altK_none altK_0 altK_1 altK_2 altK_3 optK_some optK_none Bool.cond_decide Bool.cond_not Int.toNat_natCast
set_option linter.unusedSimpArgs false
theorem tmod_in {a n : Int} (hn : 1 ≤ n) : -n < Int.tmod a n ∧ Int.tmod a n < n := ⟨Int.lt_tmod_of_pos a (by omega), Int.tmod_lt_of_pos a (by omega)⟩
theorem place_ok {i p n : Int} (hn : 1 ≤ n) (hp : 0 ≤ p) : Int.tmod (Int.tmod i n + p + n) n = (i + p) % n := by
  have h := tmod_in (a := i) hn
  rw [Int.tmod_eq_emod_of_nonneg (by omega), Int.add_emod_right]
  have e := tmod_floor i hn
  by_cases c : Int.tmod i n < 0
  · rw [if_pos c] at e
    rw [show Int.tmod i n + p = (i % n + p) - n by omega, Int.sub_emod_right, Int.emod_add_emod]
  · rw [if_neg c] at e
    rw [e, Int.emod_add_emod]
theorem atL_ok {c n l p s i : Int} (h : RightW c n l p) : g11 (0, [.i c, .i n, .i l, .i p, .i s, .i i]) = some (0, [.i (atV c n l p i)]) := by
  unfold RightW at h
  have hk : 0 ≤ (i + p) % n ∧ (i + p) % n < n := ⟨Int.emod_nonneg _ (by omega), Int.emod_lt_of_pos _ (by omega)⟩
  have ht := tmod_in (a := i) (n := n) (by omega)
  have w0 : IntKind.i64.wrap (Int.tmod i n + p) = Int.tmod i n + p := wrap64 (by omega) (by omega)
  have w1 : IntKind.i64.wrap (Int.tmod i n + p + n) = Int.tmod i n + p + n := wrap64 (by omega) (by omega)
  have hm : Int.tmod (Int.tmod i n + p + n) n = (i + p) % n := place_ok (by omega) (by omega)
  simp -implicitDefEqProofs only [g11, g11_0, asI_i, asB_b, asE_nil, Bool.cond_decide, if_neg (show ¬ n = 0 by omega), w0, w1, hm]
  unfold atV
  generalize (i + p) % n = k at *
  obtain ⟨f1, f2, f3, f4, f5⟩ := lk_facts (l := l) (k := k) (n := n) (by omega) hk (by omega)
  have w2 : IntKind.i64.wrap (2 * k) = 2 * k := wrap64 (by omega) (by omega)
  have w3 : IntKind.i64.wrap (2 * l) = 2 * l := wrap64 (by omega) (by omega)
  have w4 : IntKind.i64.wrap (4 * l) = 4 * l := wrap64 (by omega) (by omega)
  have w5 : IntKind.i64.wrap (3 * l) = 3 * l := wrap64 (by omega) (by omega)
  have w6 : IntKind.i64.wrap (2 * l * k) = 2 * l * k := by rw [two_l]; exact wrap64 (by omega) (by omega)
  have w7 : IntKind.i64.wrap (4 * l * k) = 4 * l * k := by rw [four_l]; exact wrap64 (by omega) (by omega)
  have w8 : IntKind.i64.wrap (2 * k - n) = 2 * k - n := wrap64 (by omega) (by omega)
  have w9 : IntKind.i64.wrap (0 - l) = 0 - l := wrap64 (by omega) (by omega)
  have q1 : Int.tdiv (2 * l * k) n = 2 * l * k / n := Int.tdiv_eq_ediv_of_nonneg (by rw [two_l]; omega)
  have q2 : Int.tdiv (4 * l * k) n = 4 * l * k / n := Int.tdiv_eq_ediv_of_nonneg (by rw [four_l]; omega)
  have d1 : 0 ≤ 2 * l * k / n ∧ 2 * l * k / n ≤ 4294836224 := by rw [two_l]; exact ⟨Int.ediv_nonneg (by omega) (by omega), by have := Int.ediv_le_self (a := 2 * (l * k)) n (by omega); omega⟩
  have d2 : 0 ≤ 4 * l * k / n ∧ 4 * l * k / n ≤ 8589672448 := by rw [four_l]; exact ⟨Int.ediv_nonneg (by omega) (by omega), by have := Int.ediv_le_self (a := 4 * (l * k)) n (by omega); omega⟩
  have u1 : IntKind.i64.wrap (2 * l * k / n) = 2 * l * k / n := wrap64 (by omega) (by omega)
  have u2 : IntKind.i64.wrap (4 * l * k / n) = 4 * l * k / n := wrap64 (by omega) (by omega)
  have v1 : IntKind.i64.wrap (2 * l * k / n - l) = 2 * l * k / n - l := wrap64 (by omega) (by omega)
  have v2 : IntKind.i64.wrap (4 * l * k / n - l) = 4 * l * k / n - l := wrap64 (by omega) (by omega)
  have v3 : IntKind.i64.wrap (3 * l - 4 * l * k / n) = 3 * l - 4 * l * k / n := wrap64 (by omega) (by omega)
  by_cases c0 : c = 0
  · rw [if_pos c0, if_pos c0, w2, w9]
    by_cases q : 2 * k < n
    · rw [if_pos q, if_pos q]
    · rw [if_neg q, if_neg q]
  rw [if_neg c0, if_neg c0]
  by_cases c1 : c = 1
  · simp -implicitDefEqProofs only [if_pos c1, w3, w6, q1, u1, v1]
  rw [if_neg c1, if_neg c1]
  by_cases c2 : c = 2
  · rw [if_pos c2, if_pos c2]
    by_cases q : 2 * k < n
    · simp -implicitDefEqProofs only [w2, if_pos q, w4, w7, q2, u2, v2]
    · simp -implicitDefEqProofs only [w2, if_neg q, w4, w5, w7, q2, u2, v3]
  rw [if_neg c2, if_neg c2]
  by_cases c3 : c = 3
  · rw [if_pos c3, if_pos c3]
    by_cases q : 2 * k < n
    · have hb := bowL_ok (x := 2 * k) (n := n) (by omega) (by omega)
      have hf := (bow_facts (x := 2 * k) (n := n) (by omega) (by omega)).2.2
      obtain ⟨e1, e2, e3⟩ := lb_facts (l := l) (by omega) hf
      have w10 : IntKind.i64.wrap (l * bowV (2 * k) n) = l * bowV (2 * k) n := wrap64 (by omega) (by omega)
      have w11 : IntKind.i64.wrap (l * bowV (2 * k) n + 8192) = l * bowV (2 * k) n + 8192 := wrap64 (by omega) (by omega)
      have t1 : Int.tdiv (l * bowV (2 * k) n + 8192) 16384 = (l * bowV (2 * k) n + 8192) / 16384 := Int.tdiv_eq_ediv_of_nonneg (by omega)
      have w12 : IntKind.i64.wrap ((l * bowV (2 * k) n + 8192) / 16384) = (l * bowV (2 * k) n + 8192) / 16384 := wrap64 (by omega) (by omega)
      simp -implicitDefEqProofs only [w2, if_pos q, hb, altK_0, asI_i, asE_nil, w10, w11, t1, w12]
    · have hb := bowL_ok (x := 2 * k - n) (n := n) (by omega) (by omega)
      have hf := (bow_facts (x := 2 * k - n) (n := n) (by omega) (by omega)).2.2
      obtain ⟨e1, e2, e3⟩ := lb_facts (l := l) (by omega) hf
      have w10 : IntKind.i64.wrap (l * bowV (2 * k - n) n) = l * bowV (2 * k - n) n := wrap64 (by omega) (by omega)
      have w11 : IntKind.i64.wrap (l * bowV (2 * k - n) n + 8192) = l * bowV (2 * k - n) n + 8192 := wrap64 (by omega) (by omega)
      have t1 : Int.tdiv (l * bowV (2 * k - n) n + 8192) 16384 = (l * bowV (2 * k - n) n + 8192) / 16384 := Int.tdiv_eq_ediv_of_nonneg (by omega)
      have w12 : IntKind.i64.wrap ((l * bowV (2 * k - n) n + 8192) / 16384) = (l * bowV (2 * k - n) n + 8192) / 16384 := wrap64 (by omega) (by omega)
      have w13 : IntKind.i64.wrap (0 - (l * bowV (2 * k - n) n + 8192) / 16384) = 0 - (l * bowV (2 * k - n) n + 8192) / 16384 := wrap64 (by omega) (by omega)
      simp -implicitDefEqProofs only [w2, if_neg q, w8, hb, altK_0, asI_i, asE_nil, w10, w11, t1, w12, w13]
  · rw [if_neg c3, if_neg c3]
theorem ats (c n l p s i : Int) : g3 (0, [.i c, .i n, .i l, .i p, .i s, .i i]) = some (0, [.b true]) := by
  have hr := right_ok c n l p s
  have hl := rightL_ok c n l p s
  have hne : ∀ x : Bool, (x ≠ x) = False := fun x => by simp
  simp -implicitDefEqProofs only [g3, g3_0, asI_i, asB_b, asE_nil, Bool.cond_decide, hr, hl, altK_0, hne, if_false, awakeL_ok]
  by_cases i1 : i < -1099511627776
  · rw [if_pos i1]
  rw [if_neg i1]
  by_cases i2 : 1099511627776 < i
  · rw [if_pos i2]
  rw [if_neg i2]
  by_cases h : RightW c n l p
  · have hb := at_in (i := i) h
    have hw : IntKind.i64.wrap (0 - l) = 0 - l := by unfold RightW at h; exact wrap64 (by omega) (by omega)
    simp -implicitDefEqProofs only [at_ok (s := s) (i := i) h (by omega), atL_ok (s := s) (i := i) h, altK_0, asI_i, asB_b, asE_nil, decide_eq_true h, Bool.not_true, cond_false, if_true, hw, if_pos hb.2, if_pos (show 0 - l ≤ atV c n l p i by omega), awakeL_ok]
  · simp -implicitDefEqProofs only [at_no (s := s) (i := i) h, altK_0, asI_i, asB_b, asE_nil, decide_eq_false h, Bool.not_false, cond_true, if_true]
theorem ats_ev (c n l p s i : Int) : evF tab 21 3 [.agg [.int .i64 c, .int .i64 n, .int .i64 l, .int .i64 p, .int .u32 s], .int .i64 i] [] = some (.bool true, [], []) :=
  (ok3 0).ret (i := 0) (ls := [.i c, .i n, .i l, .i p, .i s, .i i]) (j := 0) (r := [.b true]) (ats c n l p s i) rfl rfl rfl rfl
end Go.Proofs.Ytgmlibigknnbmaa
