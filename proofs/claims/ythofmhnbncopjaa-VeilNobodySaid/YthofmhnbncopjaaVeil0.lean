/-
  The law of a nil veil. Conditions: none.
-/
import Derived.Test.YthofmhnbncopjaaDecA
import Derived.KernelRfl
namespace Go.Proofs.Ythofmhnbncopjaa
open Go Go.Sx
set_option maxRecDepth 100000
set_option linter.unusedVariables false
attribute [local simp] asI_i asB_b asL_l asN_n asS_s asE_nil altK_none altK_0 altK_1 altK_2 altK_3 optK_some optK_none Bool.cond_decide Bool.cond_not Int.toNat_natCast
set_option linter.unusedSimpArgs false
theorem few_ok (x0 x1 x2 x3 x4 x5 x6 x7 x8 x9 x10 x11 x12 x13 x14 x15 x16 x17 x18 x19 x20 x21 x22 x23 x24 x25 x26 x27 : Int) (n : Nat) (l : List Int) : ∃ m : Nat, g8 (0, [.i x0, .i x1, .i x2, .i x3, .n n, .i x4, .i x5, .i x6, .i x7, .i x8, .i x9, .i x10, .i x11, .i x12, .i x13, .i x14, .i x15, .i x16, .i x17, .i x18, .i x19, .i x20, .i x21, .i x22, .i x23, .i x24, .i x25, .i x26, .i x27, .l l]) = some (0, [.i x0, .i x1, .i x2, .i x3, .n m, .i x4, .i x5, .i x6, .i x7, .i x8, .i x9, .i x10, .i x11, .i x12, .i x13, .i x14, .i x15, .i x16, .i x17, .i x18, .i x19, .i x20, .i x21, .i x22, .i x23, .i x24, .i x25, .i x26, .i x27, .l l]) := by
  simp -implicitDefEqProofs only [g8, g8_0, asI_i, asN_n, asL_l, asE_nil, Bool.cond_decide]
  by_cases h : (5 : Int) < n
  · exact ⟨5, by rw [if_pos h, if_pos (by omega)]⟩
  · exact ⟨n, by rw [if_neg h]⟩
theorem veil0 (x0 x1 x2 x3 x4 x5 x6 x7 x8 x9 x10 x11 x12 x13 x14 x15 x16 x17 x18 x19 x20 x21 x22 x23 x24 x25 x26 x27 : Int) (n : Nat) (l : List Int) : g3 (0, [.i x0, .i x1, .i x2, .i x3, .n n, .i x4, .i x5, .i x6, .i x7, .i x8, .i x9, .i x10, .i x11, .i x12, .i x13, .i x14, .i x15, .i x16, .i x17, .i x18, .i x19, .i x20, .i x21, .i x22, .i x23, .i x24, .i x25, .i x26, .i x27, .l l]) = some (0, [.b true, .l l]) := by
  obtain ⟨m, hm⟩ := few_ok x0 x1 x2 x3 x4 x5 x6 x7 x8 x9 x10 x11 x12 x13 x14 x15 x16 x17 x18 x19 x20 x21 x22 x23 x24 x25 x26 x27 n l
  simp -implicitDefEqProofs only [g3, g3_0, asI_i, asN_n, asL_l, asB_b, asE_nil, Bool.cond_decide, hm, altK_0, g6, g6_0, g7, g7_0, g9, g9_0, g10, g10_0, awakeL_ok, List.length_cons, List.length_nil, if_true]
theorem veil0_l (x0 x1 x2 x3 x4 x5 x6 x7 x8 x9 x10 x11 x12 x13 x14 x15 x16 x17 x18 x19 x20 x21 x22 x23 x24 x25 x26 x27 : Int) (n : Nat) (l : List Int) : ∃ d, evF tab d 3 [.agg [.int .i64 x0, .int .i64 x1, .int .i64 x2, .int .i64 x3, .slice 0 0 n 2, .int .i64 x4, .int .i64 x5, .int .i64 x6, .int .i64 x7, .int .i64 x8, .int .i64 x9, .int .i64 x10, .int .i64 x11, .int .i64 x12, .int .i64 x13, .int .i64 x14, .int .i64 x15, .int .i64 x16, .int .i64 x17, .int .i64 x18, .int .i64 x19, .int .i64 x20, .int .i64 x21, .int .i64 x22, .int .i64 x23, .int .i64 x24, .int .i64 x25, .int .i64 x26, .int .i64 x27]] [⟨false, .ints .i64 l⟩] = some (.bool true, [⟨false, .ints .i64 l⟩], []) :=
  ⟨_, (ok3 0).ret (i := 0) (ls := [.i x0, .i x1, .i x2, .i x3, .n n, .i x4, .i x5, .i x6, .i x7, .i x8, .i x9, .i x10, .i x11, .i x12, .i x13, .i x14, .i x15, .i x16, .i x17, .i x18, .i x19, .i x20, .i x21, .i x22, .i x23, .i x24, .i x25, .i x26, .i x27, .l l]) (j := 0) (r := [.b true, .l l]) (veil0 x0 x1 x2 x3 x4 x5 x6 x7 x8 x9 x10 x11 x12 x13 x14 x15 x16 x17 x18 x19 x20 x21 x22 x23 x24 x25 x26 x27 n l) rfl rfl rfl rfl⟩
theorem veil0_n (x0 x1 x2 x3 x4 x5 x6 x7 x8 x9 x10 x11 x12 x13 x14 x15 x16 x17 x18 x19 x20 x21 x22 x23 x24 x25 x26 x27 : Int) : evF tab 30 3 [.agg [.int .i64 x0, .int .i64 x1, .int .i64 x2, .int .i64 x3, .nils, .int .i64 x4, .int .i64 x5, .int .i64 x6, .int .i64 x7, .int .i64 x8, .int .i64 x9, .int .i64 x10, .int .i64 x11, .int .i64 x12, .int .i64 x13, .int .i64 x14, .int .i64 x15, .int .i64 x16, .int .i64 x17, .int .i64 x18, .int .i64 x19, .int .i64 x20, .int .i64 x21, .int .i64 x22, .int .i64 x23, .int .i64 x24, .int .i64 x25, .int .i64 x26, .int .i64 x27]] [] = some (.bool true, [], []) := by kernel_rfl
theorem veil0_d (x0 x1 x2 x3 x4 x5 x6 x7 x8 x9 x10 x11 x12 x13 x14 x15 x16 x17 x18 x19 x20 x21 x22 x23 x24 x25 x26 x27 : Int) : evF tab 30 3 [.agg [.int .i64 x0, .int .i64 x1, .int .i64 x2, .int .i64 x3, .slice 0 0 0 2, .int .i64 x4, .int .i64 x5, .int .i64 x6, .int .i64 x7, .int .i64 x8, .int .i64 x9, .int .i64 x10, .int .i64 x11, .int .i64 x12, .int .i64 x13, .int .i64 x14, .int .i64 x15, .int .i64 x16, .int .i64 x17, .int .i64 x18, .int .i64 x19, .int .i64 x20, .int .i64 x21, .int .i64 x22, .int .i64 x23, .int .i64 x24, .int .i64 x25, .int .i64 x26, .int .i64 x27]] [⟨true, .unk⟩] = some (.bool true, [⟨true, .unk⟩], []) := by kernel_rfl
end Go.Proofs.Ythofmhnbncopjaa
