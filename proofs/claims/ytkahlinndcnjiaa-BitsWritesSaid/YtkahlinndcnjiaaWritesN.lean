/-
  BitsWrites: the law, of no items. Conditions: none.
-/
import Derived.Test.YtkahlinndcnjiaaDecY
import Derived.KernelRfl
namespace Go.Proofs.Ytkahlinndcnjiaa
open Go Go.Sx Y
set_option maxRecDepth 100000
set_option linter.unusedVariables false
attribute [local simp] asI_i asB_b asL_l asN_n asS_s asE_nil altK_none altK_0 altK_1 altK_2 altK_3 optK_some optK_none Bool.cond_decide Bool.cond_not Int.toNat_natCast
set_option linter.unusedSimpArgs false

theorem byts0_Y (size e : Int) (hs : size ≤ 1000) : g13 (0, [.i size, .i 0, .i e]) = some (if e ≠ 0 then (1, [.i e, .i 0, .i e]) else if size < 0 then (1, [.i 1, .i 0, .i e]) else (0, [.n size.toNat, .i 0, .i 0, .i e, .l (List.replicate size.toNat 0)])) := by
  by_cases c : e ≠ 0
  · rw [if_pos c]
    simp -implicitDefEqProofs only [g13, g13_0, asI_i, asE_nil, Bool.cond_decide, if_pos c]
  · rw [if_neg c]
    by_cases d : size < 0
    · rw [if_pos d]
      simp -implicitDefEqProofs only [g13, g13_0, asI_i, asE_nil, Bool.cond_decide, if_neg c, if_pos d]
    · rw [if_neg d]
      simp -implicitDefEqProofs only [g13, g13_0, asI_i, asE_nil, Bool.cond_decide, if_neg c, if_neg d, if_true, if_pos (show (0 : Int) ≤ size by omega), if_pos (show (1 : Int) * size ≤ 140737488355328 by omega), if_pos (show size ≤ 9223372036854775807 by omega)]

theorem whole_nil_Y (z : Nat) (hz : z ≤ 1000) : g16 (1, [.i z]) = some (1, [.n z, .l (List.replicate z 0)]) := by
  have hL : L16_0 (1, [.n z, .i 0, .l (List.replicate z 0)]) = some (1, [.n z, .l (List.replicate z 0)]) := loopL_last (m := 2) (f := f16_0) (j := 1) (by
    simp -implicitDefEqProofs only [f16_0, f16_0_1, asI_i, asN_n, asL_l, asE_nil, Bool.cond_decide, if_neg (Int.lt_irrefl _)])
  simp -implicitDefEqProofs only [g16, g16_1, asI_i, asN_n, asL_l, asE_nil, if_true, if_pos (show (0 : Int) ≤ (z : Int) by omega), if_pos (show (1 : Int) * (z : Int) ≤ 140737488355328 by omega), if_pos (show (z : Int) ≤ 9223372036854775807 by omega), Int.toNat_natCast, hL, altK_1]

theorem same_ok_Y (z : Nat) (b : List Int) (hb : b.length = z) : g15 (0, [.n z, .n z, .l b, .l b]) = some (0, [.b true, .l b, .l b]) := by
  simp -implicitDefEqProofs only [g15, g15_0, asN_n, asL_l, asE_nil, if_pos (show 0 + z ≤ b.length by omega), decide_true]

theorem len0_Y (n e : Int) : g14 (0, [.i n, .i e]) = some (0, [.i n, .i n, .i e]) := by
  simp -implicitDefEqProofs only [g14, g14_0, asI_i, asN_n, asL_l, asB_b, asE_nil, Bool.cond_decide, Bool.cond_not]

theorem law_Y0 (size : Int) : g4 (0, [.i size]) = some (0, [.b true]) := by
  have hne : ∀ x : Int, (x ≠ x) = False := fun x => eq_false (fun h => h rfl)
  have hl : L4_1 (0, [.i size, .b true, .i 0, .i 0, .i 0]) = some (0, [.i size, .b true, .i 0, .i 0]) := loopL_last (m := 2) (f := f4_1) (j := 0) (by
    simp -implicitDefEqProofs only [f4_1, f4_1_0, asI_i, asN_n, asL_l, asB_b, asE_nil, Bool.cond_decide, Bool.cond_not, if_neg (Int.lt_irrefl _), if_neg (show ¬ (0 : Int) < ((0 : Nat) : Int) by omega)])
  by_cases big : 1000 < size
  · have hb := byts0_Y 1000 0 (by omega)
    rw [if_neg (by decide), if_neg (by omega)] at hb
    have hwn : g16 (1, [.i 1000]) = _ := whole_nil_Y 1000 (by omega)
    have hsm := same_ok_Y 1000 (List.replicate 1000 0) (List.length_replicate)
    have t1 : Int.toNat 1000 = 1000 := rfl
    rw [t1] at hb
    simp -implicitDefEqProofs only [g4, g4_0, asI_i, asN_n, asL_l, asB_b, asE_nil, Bool.cond_decide, Bool.cond_not, Bool.not_true, Bool.not_false, altK_0, altK_1, if_true, if_false, cond_true, cond_false, awakeL_ok, hne, len0_Y, hl, if_pos big, hb, hwn, hsm]
  · have hb := byts0_Y size 0 (by omega)
    rw [if_neg (by decide)] at hb
    by_cases neg : size < 0
    · rw [if_pos neg] at hb
      simp -implicitDefEqProofs only [g4, g4_0, asI_i, asN_n, asL_l, asB_b, asE_nil, Bool.cond_decide, Bool.cond_not, Bool.not_true, Bool.not_false, altK_0, altK_1, if_true, if_false, cond_true, cond_false, awakeL_ok, hne, len0_Y, hl, if_neg big, hb, if_pos neg]
    · rw [if_neg neg] at hb
      obtain ⟨z, rfl⟩ : ∃ z : Nat, size = z := ⟨size.toNat, by omega⟩
      rw [Int.toNat_natCast] at hb
      have hwn := whole_nil_Y z (by omega)
      have hsm := same_ok_Y z (List.replicate z 0) (List.length_replicate)
      simp -implicitDefEqProofs only [g4, g4_0, asI_i, asN_n, asL_l, asB_b, asE_nil, Bool.cond_decide, Bool.cond_not, Bool.not_true, Bool.not_false, altK_0, altK_1, if_true, if_false, cond_true, cond_false, awakeL_ok, hne, len0_Y, hl, if_neg big, hb, if_neg neg, hwn, hsm]

theorem law_Y1 (size : Int) : g4 (1, [.n 0, .i size]) = some (1, [.b true]) := by
  have hne : ∀ x : Int, (x ≠ x) = False := fun x => eq_false (fun h => h rfl)
  have hl : L4_1 (1, [.n 0, .i size, .b true, .i 0, .i 0, .i 0]) = some (1, [.i size, .b true, .i 0, .i 0]) := loopL_last (m := 2) (f := f4_1) (j := 1) (by
    simp -implicitDefEqProofs only [f4_1, f4_1_1, asI_i, asN_n, asL_l, asB_b, asE_nil, Bool.cond_decide, Bool.cond_not, if_neg (Int.lt_irrefl _), if_neg (show ¬ (0 : Int) < ((0 : Nat) : Int) by omega)])
  by_cases big : 1000 < size
  · have hb := byts0_Y 1000 0 (by omega)
    rw [if_neg (by decide), if_neg (by omega)] at hb
    have hwn : g16 (1, [.i 1000]) = _ := whole_nil_Y 1000 (by omega)
    have hsm := same_ok_Y 1000 (List.replicate 1000 0) (List.length_replicate)
    have t1 : Int.toNat 1000 = 1000 := rfl
    rw [t1] at hb
    simp -implicitDefEqProofs only [g4, g4_1, asI_i, asN_n, asL_l, asB_b, asE_nil, Bool.cond_decide, Bool.cond_not, Bool.not_true, Bool.not_false, altK_0, altK_1, if_true, if_false, cond_true, cond_false, awakeL_ok, hne, len0_Y, hl, if_pos big, hb, hwn, hsm]
  · have hb := byts0_Y size 0 (by omega)
    rw [if_neg (by decide)] at hb
    by_cases neg : size < 0
    · rw [if_pos neg] at hb
      simp -implicitDefEqProofs only [g4, g4_1, asI_i, asN_n, asL_l, asB_b, asE_nil, Bool.cond_decide, Bool.cond_not, Bool.not_true, Bool.not_false, altK_0, altK_1, if_true, if_false, cond_true, cond_false, awakeL_ok, hne, len0_Y, hl, if_neg big, hb, if_pos neg]
    · rw [if_neg neg] at hb
      obtain ⟨z, rfl⟩ : ∃ z : Nat, size = z := ⟨size.toNat, by omega⟩
      rw [Int.toNat_natCast] at hb
      have hwn := whole_nil_Y z (by omega)
      have hsm := same_ok_Y z (List.replicate z 0) (List.length_replicate)
      simp -implicitDefEqProofs only [g4, g4_1, asI_i, asN_n, asL_l, asB_b, asE_nil, Bool.cond_decide, Bool.cond_not, Bool.not_true, Bool.not_false, altK_0, altK_1, if_true, if_false, cond_true, cond_false, awakeL_ok, hne, len0_Y, hl, if_neg big, hb, if_neg neg, hwn, hsm]

theorem ev_Y0 (size : Int) : ∃ d, evF tab d 4 [.nils, .int .i64 size] [] = some (.bool true, [], []) :=
  ⟨_, (ok4 0).ret (i := 0) (ls := [.i size]) (j := 0) (r := [.b true]) (law_Y0 size) rfl rfl rfl rfl⟩
theorem ev_Y1 (size : Int) : ∃ d, evF tab d 4 [.slice 0 0 0 3, .int .i64 size] [⟨true, .unk⟩] = some (.bool true, [⟨true, .unk⟩], []) :=
  ⟨_, (ok4 0).ret (i := 1) (ls := [.n 0, .i size]) (j := 1) (r := [.b true]) (law_Y1 size) rfl rfl rfl rfl⟩
end Go.Proofs.Ytkahlinndcnjiaa
