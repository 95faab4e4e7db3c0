/-
  The law of samples at another rate, where there are no samples. Conditions: none.
-/
import Derived.Test.YtkbjemencmaloaaConv
import Derived.Test.YtkbjemencmaloaaDecB
namespace Go.Proofs.Ytkbjemencmaloaa
open Go Go.Sx
set_option maxRecDepth 100000
set_option linter.unusedVariables false
attribute [local simp] asI_i asB_b asL_l asN_n asS_s asE_nil altK_none altK_0 altK_1 altK_2 altK_3 optK_some optK_none Bool.cond_decide Bool.cond_not Int.toNat_natCast
set_option linter.unusedSimpArgs false
theorem bstep : B.g6 = g6 := rfl
theorem bstepL : B.g7 = g7 := rfl
theorem blen : B.g8 = g8 := rfl
theorem blenL : B.g9 = g9 := rfl
theorem bconv (a b s : Int) (e1 : g6 (0, [.i a, .i b]) = some (0, [.i s])) (e3 : g8 (0, [.i 0, .i s]) = some (0, [.i 0])) : B.g14 (0, [.i a, .i b]) = some (0, [.i (if s = 0 then 14 else 0)]) := by
  simp -implicitDefEqProofs only [B.g14, B.g14_0, asI_i, asE_nil, bstep, blen, e1, e3, altK_0, Bool.cond_decide]
  by_cases z : s = 0
  · rw [if_pos z, if_pos z]
  · rw [if_neg z, if_neg z, if_neg (by omega)]
    have hl : B.L14_0 (0, [.i s, .i 0, .i 0]) = some (0, []) := loopL_last (m := 2) (f := B.f14_0) (j := 0) (by
      simp -implicitDefEqProofs only [B.f14_0, B.f14_0_0, asI_i, asE_nil, Bool.cond_decide, if_neg (Int.lt_irrefl _)])
    simp -implicitDefEqProofs only [hl, altK_0, asE_nil]
theorem few_n : B.g11 (0, []) = some (0, []) := by kernel_rfl
theorem few_d : B.g11 (1, []) = some (1, []) := by kernel_rfl
theorem convs_n (a b : Int) : B.g5 (0, [.i a, .i b]) = some (0, [.b true]) := by
  obtain ⟨s, e1, e2, hs, _⟩ := step_facts a b
  obtain ⟨e3, e4⟩ := length_no 0 s (Or.inl (by omega))
  have hc := bconv a b s e1 e3
  have hl : B.L5_0 (0, [.i a, .i b, .i s, .i 0, .i 0]) = some (0, []) := loopL_last (m := 6) (f := B.f5_0) (j := 0) (by
    simp -implicitDefEqProofs only [B.f5_0, B.f5_0_0, asI_i, asE_nil, Bool.cond_decide, if_neg (Int.lt_irrefl _)])
  simp -implicitDefEqProofs only [B.g5, B.g5_0, asI_i, asB_b, asE_nil, Bool.cond_decide, few_n, altK_0, bstepL, blenL, e2, e4, if_neg (show ¬ (2000 : Int) < 0 by omega), hc]
  by_cases z : s = 0
  · simp -implicitDefEqProofs only [if_pos z, if_true, awakeL_ok, altK_0, asB_b, asE_nil]
  · have hne : ∀ x : Int, (x ≠ x) = False := fun x => by simp
    simp -implicitDefEqProofs only [if_neg z, if_neg (show ¬ (1048576 : Int) < 0 by omega), hne, if_false, hl, altK_0, asE_nil, awakeL_ok, asB_b]
theorem convs_d (a b : Int) : B.g5 (1, [.i a, .i b]) = some (2, [.b true]) := by
  obtain ⟨s, e1, e2, hs, _⟩ := step_facts a b
  obtain ⟨e3, e4⟩ := length_no 0 s (Or.inl (by omega))
  have hc := bconv a b s e1 e3
  have hl : B.L5_0 (4, [.i a, .i b, .i s, .i 0, .i 0]) = some (6, []) := loopL_last (m := 6) (f := B.f5_0) (j := 6) (by
    simp -implicitDefEqProofs only [B.f5_0, B.f5_0_4, asI_i, asE_nil, Bool.cond_decide, if_neg (Int.lt_irrefl _)])
  simp -implicitDefEqProofs only [B.g5, B.g5_1, asI_i, asB_b, asE_nil, Bool.cond_decide, few_d, altK_0, altK_1, bstepL, blenL, e2, e4, if_neg (show ¬ (2000 : Int) < 0 by omega), hc]
  by_cases z : s = 0
  · simp -implicitDefEqProofs only [if_pos z, if_true, awakeL_ok, altK_0, asB_b, asE_nil]
  · have hne : ∀ x : Int, (x ≠ x) = False := fun x => by simp
    simp -implicitDefEqProofs only [if_neg z, if_neg (show ¬ (1048576 : Int) < 0 by omega), hne, if_false, hl, altK_6, altK_0, asE_nil, awakeL_ok, asB_b]
theorem convs_n_ev (a b : Int) : ∃ d, evF tab d 5 [.nils, .int .i64 a, .int .i64 b] [] = some (.bool true, [], []) :=
  ⟨_, (B.ok5 0).ret (i := 0) (ls := [.i a, .i b]) (j := 0) (r := [.b true]) (convs_n a b) rfl rfl rfl rfl⟩
theorem convs_d_ev (a b : Int) : ∃ d, evF tab d 5 [.slice 0 0 0 1, .int .i64 a, .int .i64 b] [⟨true, .unk⟩] = some (.bool true, [⟨true, .unk⟩], []) :=
  ⟨_, (B.ok5 0).ret (i := 1) (ls := [.i a, .i b]) (j := 2) (r := [.b true]) (convs_d a b) rfl rfl rfl rfl⟩
end Go.Proofs.Ytkbjemencmaloaa
