/-
  The law of steps between rates. Conditions: none.
-/
import Derived.Test.YtkbjemencmaloaaDecA
import Derived.KernelRfl
namespace Go.Proofs.Ytkbjemencmaloaa
open Go Go.Sx
set_option maxRecDepth 100000
set_option linter.unusedVariables false
attribute [local simp] asI_i asB_b asL_l asN_n asS_s asE_nil altK_none altK_0 altK_1 altK_2 altK_3 optK_some optK_none Bool.cond_decide Bool.cond_not Int.toNat_natCast
set_option linter.unusedSimpArgs false
theorem shl32 (a : Int) : shlI .i64 a 32 = IntKind.i64.wrap (a * 4294967296) := by cases a <;> rfl
theorem step_both (a b : Int) : ∃ s, g6 (0, [.i a, .i b]) = some (0, [.i s]) ∧ g7 (0, [.i a, .i b]) = some (0, [.i s]) := by
  simp only [g6, g6_0, g7, g7_0, asI_i, asE_nil, Bool.cond_decide]
  simp only [shl32]
  by_cases h1 : a < 1
  · exact ⟨_, if_pos h1, if_pos h1⟩
  · simp only [if_neg h1]
    by_cases h2 : 192000 < a
    · exact ⟨_, if_pos h2, if_pos h2⟩
    · simp only [if_neg h2]
      by_cases h3 : b < 1
      · exact ⟨_, if_pos h3, if_pos h3⟩
      · simp only [if_neg h3]
        by_cases h4 : 192000 < b
        · exact ⟨_, if_pos h4, if_pos h4⟩
        · simp only [if_neg h4, if_neg (show ¬ b = 0 by omega)]
          generalize IntKind.i64.wrap (Int.tdiv (IntKind.i64.wrap (a * 4294967296)) b) = s
          by_cases h5 : s < 1
          · exact ⟨_, if_pos h5, if_pos h5⟩
          · simp only [if_neg h5]
            by_cases h6 : 34359738368 < s
            · exact ⟨_, if_pos h6, if_pos h6⟩
            · exact ⟨_, if_neg h6, if_neg h6⟩
theorem ceil_div {E s : Int} (hE : 1 ≤ E) (hs : 1 ≤ s) : (E - 1) / s + 1 = if E / s * s < E then E / s + 1 else E / s := by
  have h1 := Int.mul_ediv_add_emod E s
  have h2 := Int.emod_nonneg E (show s ≠ 0 by omega)
  have h3 := Int.emod_lt_of_pos E (show 0 < s by omega)
  generalize E / s = q at *
  generalize E % s = r at *
  have e : q * s = s * q := Int.mul_comm _ _
  split
  · rw [div_at (c := q) (by omega) (by omega) (by omega)]
  · have e1 : s * (q - 1) = s * q - s := by rw [Int.mul_sub, Int.mul_one]
    rw [div_at (c := q - 1) (by omega) (by omega) (by omega)]
    omega
theorem length_both (n s : Int) : ∃ k, g8 (0, [.i n, .i s]) = some (0, [.i k]) ∧ g9 (0, [.i n, .i s]) = some (0, [.i k]) := by
  simp only [g8, g8_0, g9, g9_0, asI_i, asE_nil, Bool.cond_decide]
  simp only [shl32]
  by_cases h1 : n < 1
  · exact ⟨_, if_pos h1, if_pos h1⟩
  · simp only [if_neg h1]
    by_cases h2 : 1048576 < n
    · exact ⟨_, if_pos h2, if_pos h2⟩
    · simp only [if_neg h2]
      by_cases h3 : s < 1
      · exact ⟨_, if_pos h3, if_pos h3⟩
      · simp only [if_neg h3]
        by_cases h4 : 34359738368 < s
        · exact ⟨_, if_pos h4, if_pos h4⟩
        · simp only [if_neg h4, if_neg (show ¬ s = 0 by omega)]
          have w1 : IntKind.i64.wrap (n * 4294967296) = n * 4294967296 := wrap64 (by omega) (by omega)
          obtain ⟨E, hE⟩ : ∃ E, E = n * 4294967296 := ⟨_, rfl⟩
          rw [← hE] at w1
          simp only [← hE, w1]
          have w2 : IntKind.i64.wrap (E - 1) = E - 1 := wrap64 (by omega) (by omega)
          have d1 : Int.tdiv (E - 1) s = (E - 1) / s := Int.tdiv_eq_ediv_of_nonneg (by omega)
          have d2 : Int.tdiv E s = E / s := Int.tdiv_eq_ediv_of_nonneg (by omega)
          have b1 : 0 ≤ (E - 1) / s ∧ (E - 1) / s ≤ E - 1 := ⟨Int.ediv_nonneg (by omega) (by omega), Int.ediv_le_self _ (by omega)⟩
          have b2 : 0 ≤ E / s ∧ E / s ≤ E := ⟨Int.ediv_nonneg (by omega) (by omega), Int.ediv_le_self _ (by omega)⟩
          have b3 : E / s * s ≤ E := Int.ediv_mul_le E (by omega)
          have b4 : 0 ≤ E / s * s := Int.mul_nonneg b2.1 (by omega)
          have hc := ceil_div (E := E) (s := s) (by omega) (by omega)
          simp only [w2, d1, d2, wrap64 (x := (E - 1) / s) (by omega) (by omega), wrap64 (x := E / s) (by omega) (by omega), wrap64 (x := E / s * s) (by omega) (by omega), wrap64 (x := (E - 1) / s + 1) (by omega) (by omega), wrap64 (x := E / s + 1) (by omega) (by omega)]
          refine ⟨_, rfl, ?_⟩
          rw [hc]
          by_cases h5 : E / s * s < E
          · rw [if_pos h5, if_pos h5]
          · rw [if_neg h5, if_neg h5]
theorem rsteps (a b n s : Int) : g3 (0, [.i a, .i b, .i n, .i s]) = some (0, [.b true]) := by
  obtain ⟨x, e1, e2⟩ := step_both a b
  obtain ⟨k, e3, e4⟩ := length_both n s
  simp only [g3, g3_0, asI_i, asB_b, asE_nil, e1, e2, e3, e4, altK_0, Bool.cond_decide, if_true, awakeL_ok]
theorem rsteps_ev (a b n s : Int) : evF tab 21 3 [.int .i64 a, .int .i64 b, .int .i64 n, .int .i64 s] [] = some (.bool true, [], []) :=
  (ok3 0).ret (i := 0) (ls := [.i a, .i b, .i n, .i s]) (j := 0) (r := [.b true]) (rsteps a b n s) rfl rfl rfl rfl
end Go.Proofs.Ytkbjemencmaloaa
