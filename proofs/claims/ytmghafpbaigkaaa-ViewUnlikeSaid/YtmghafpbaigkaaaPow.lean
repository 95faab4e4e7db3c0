/-
  Numbers without their sign, held; sums held within 64 bits; widths. Conditions: none.
-/
import Derived.Test.YtmghafpbaigkaaaDecA
import Derived.KernelRfl
namespace Go.Proofs.Ytmghafpbaigkaaa
open Go Go.Sx
set_option maxRecDepth 100000
set_option linter.unusedVariables false
attribute [local simp] asI_i asB_b asL_l asN_n asS_s asE_nil altK_none altK_0 altK_1 altK_2 altK_3 optK_some optK_none Bool.cond_decide Bool.cond_not Int.toNat_natCast
set_option linter.unusedSimpArgs false
def In64 (d : Int) : Prop := -9223372036854775808 ≤ d ∧ d ≤ 9223372036854775807
theorem wrap_def (x : Int) : IntKind.i64.wrap x = if 9223372036854775808 ≤ x % 18446744073709551616 then x % 18446744073709551616 - 18446744073709551616 else x % 18446744073709551616 := by
  show (if (true && decide (x % 18446744073709551616 ≥ 9223372036854775808)) = true then x % 18446744073709551616 - 18446744073709551616 else x % 18446744073709551616) = _
  by_cases h : 9223372036854775808 ≤ x % 18446744073709551616
  · rw [if_pos h, if_pos (by simpa using h)]
  · rw [if_neg h, if_neg (by simpa using h)]
theorem wrap_any (x : Int) (h : -18446744073709551616 ≤ x ∧ x < 18446744073709551616) : (In64 x ∧ IntKind.i64.wrap x = x) ∨ (9223372036854775807 < x ∧ IntKind.i64.wrap x = x - 18446744073709551616) ∨ (x < -9223372036854775808 ∧ IntKind.i64.wrap x = x + 18446744073709551616) := by
  unfold In64
  rw [wrap_def]
  split <;> omega
def absV (d : Int) : Int := if d = -9223372036854775808 then 9223372036854775807 else if d < 0 then 0 - d else d
theorem abs17 (d : Int) (h : In64 d) : g17 (0, [.i d]) = some (0, [.i (absV d)]) := by
  unfold In64 at h
  simp -implicitDefEqProofs only [g17, g17_0, asI_i, asE_nil, Bool.cond_decide]
  unfold absV
  by_cases h1 : d = -9223372036854775808
  · rw [if_pos h1, if_pos h1]
  · rw [if_neg h1, if_neg h1]
    by_cases h2 : d < 0
    · rw [if_pos h2, if_pos h2, wrap64 (by omega) (by omega)]
    · rw [if_neg h2, if_neg h2]
def holdV (d : Int) : Int := if 2147483647 < d ∨ d < -2147483647 then 2147483647 else if d < 0 then 0 - d else d
theorem holdV_range (d : Int) : 0 ≤ holdV d ∧ holdV d ≤ 2147483647 := by unfold holdV; repeat' split
                                                                         all_goals omega
theorem hold12 (d : Int) (h : In64 d) : g12 (0, [.i d]) = some (0, [.i (holdV d)]) := by
  unfold In64 at h
  simp -implicitDefEqProofs only [g12, g12_0, asI_i, asE_nil, Bool.cond_decide]
  unfold holdV
  by_cases h1 : d = -9223372036854775808
  · subst h1; rfl
  · have w : d < 0 → IntKind.i64.wrap (0 - d) = 0 - d := fun _ => wrap64 (by omega) (by omega)
    by_cases h2 : d < 0
    · simp only [if_pos h2, w h2]
      repeat' split
      all_goals first | rfl | omega | (congr 4; omega)
    · simp only [if_neg h2]
      repeat' split
      all_goals first | rfl | omega
theorem clamp23 (d : Int) (h : In64 d) : g23 (0, [.i (absV d), .i 0, .i 2147483647]) = some (0, [.i (holdV d)]) := by
  unfold In64 at h
  simp -implicitDefEqProofs only [g23, g23_0, asI_i, asE_nil, Bool.cond_decide]
  unfold absV holdV
  repeat' split
  all_goals first | rfl | (simp only [Option.some.injEq, Prod.mk.injEq, List.cons.injEq, Leaf.i.injEq, true_and, and_true]; done) | (simp only [Option.some.injEq, Prod.mk.injEq, List.cons.injEq, Leaf.i.injEq, true_and, and_true]; omega)
def addV (a b : Int) : Int := if 9223372036854775807 - b < a then 9223372036854775807 else a + b
theorem addV_range {a b : Int} (ha : 0 ≤ a ∧ a ≤ 9223372036854775807) (hb : 0 ≤ b ∧ b ≤ 9223372036854775807) : 0 ≤ addV a b ∧ addV a b ≤ 9223372036854775807 := by
  unfold addV; split <;> omega
theorem add13 (a b : Int) (ha : 0 ≤ a ∧ a ≤ 9223372036854775807) (hb : 0 ≤ b ∧ b ≤ 9223372036854775807) : g13 (0, [.i a, .i b]) = some (0, [.i (addV a b)]) := by
  simp -implicitDefEqProofs only [g13, g13_0, asI_i, asE_nil, Bool.cond_decide]
  unfold addV
  rw [wrap64 (x := 9223372036854775807 - b) (by omega) (by omega)]
  by_cases h1 : 9223372036854775807 - b < a
  · rw [if_pos h1, if_pos h1]
  · rw [if_neg h1, if_neg h1, wrap64 (by omega) (by omega)]
theorem sat_step (F x : Int) (hF : 0 ≤ F ∧ F ≤ 9223372036854775807) (hx : 0 ≤ x ∧ x ≤ 9223372036854775807) (l : List Int) (k : Nat) (hk : k < 2) (hg : l[k]? = some x) : f24_0 (0, [.i F, .n 2, .i 2, .i k, .l l]) = some (0, [.i (addV F x), .n 2, .i 2, .i (k + 1 : Nat), .l l]) := by
  have h1 : (k : Int) < 2 := by omega
  have h0 : (0 : Int) ≤ k ∧ (k : Int) < ((2 : Nat) : Int) := by omega
  have w2 : IntKind.i64.wrap ((k : Int) + 1) = ((k + 1 : Nat) : Int) := wrap_nat (n := k + 1) (by omega)
  have n1 : ¬ F < 0 := by omega
  simp -implicitDefEqProofs only [f24_0, f24_0_0, asI_i, asN_n, asL_l, asE_nil, Bool.cond_decide, if_pos h1, if_pos h0, Int.toNat_natCast, hg, optK_some, w2, if_neg n1]
  unfold addV
  by_cases c1 : 9223372036854775807 - x < F
  · rw [if_pos c1]
    have w : IntKind.i64.wrap (F + x) = F + x - 18446744073709551616 := by
      rw [wrap_def]; rw [if_pos (by omega)]; omega
    rw [if_pos (by omega), if_pos (by omega), w, if_pos (by omega)]
  · rw [if_neg c1]
    have w : IntKind.i64.wrap (F + x) = F + x := wrap64 (by omega) (by omega)
    rw [w]
    have n2 : ¬ F + x < 0 := by omega
    by_cases p1 : 0 < F
    · by_cases p2 : 0 < x
      · rw [if_pos p1, if_pos p2, if_neg n2]
      · rw [if_pos p1, if_neg p2]
    · rw [if_neg p1]
theorem sum24 (a c : Int) (ha : 0 ≤ a ∧ a ≤ 9223372036854775807) (hc : 0 ≤ c ∧ c ≤ 9223372036854775807) : g24 (0, [.n 2, .l [a, c]]) = some (0, [.i (addV a c), .l [a, c]]) := by
  have a0 : addV 0 a = a := by unfold addV; rw [if_neg (by omega)]; omega
  have hl : L24_0 (0, [.i 0, .n 2, .i 2, .i 0, .l [a, c]]) = some (0, [.i (addV a c), .l [a, c]]) := by
    have main := loop1_run (f := f24_0) (fun k => [.i (if k = 0 then 0 else if k = 1 then a else addV a c), .n 2, .i 2, .i k, .l [a, c]]) 2 (j := 0) (r := [.i (addV a c), .l [a, c]]) (fun k hk => ?_) ?_ (by omega)
    · exact main
    · match k, hk with
      | 0, _ =>
        have := sat_step 0 a (by omega) ha [a, c] 0 (by omega) rfl
        rw [a0] at this
        exact this
      | 1, _ => exact sat_step a c ha hc [a, c] 1 (by omega) rfl
    · rfl
  have e2 : ((2 : Nat) : Int) = 2 := rfl
  simp -implicitDefEqProofs only [g24, g24_0, asN_n, asL_l, asI_i, asE_nil, e2, hl, altK_0]
/-- A width, whatever it is. -/
def wd (x : Int) : Int := match g16 (0, [.i x]) with
  | some (_, .i w :: _) => w
  | _ => 0
theorem shr1 {x : Int} : shrI .i64 x 1 = x / 2 := by
  have : shrI .i64 x 1 = x.fdiv 2 := rfl
  rw [this, Int.fdiv_eq_ediv_of_nonneg _ (by omega)]
theorem wd_ok (x : Int) (hx : 0 ≤ x ∧ x ≤ 9223372036854775807) : g16 (0, [.i x]) = some (0, [.i (wd x)]) := by
  have key : ∃ w, g16 (0, [.i x]) = some (0, [.i w]) := by
    have hL : ∃ j r, L16_0 (0, [.i x, .i 1]) = some (j, r) ∧ ∃ w, j = 0 ∧ r = [.i w] := by
      refine loopL_ind (fun s => ∃ t c : Int, 0 ≤ t ∧ t ≤ 9223372036854775807 ∧ s = (0, [.i t, .i c])) (fun s => match s.2 with | .i t :: _ => t.toNat | _ => 0) (fun j r => ∃ w, j = 0 ∧ r = [.i w]) ?_ _ ⟨x, 1, hx.1, hx.2, rfl⟩ (by show x.toNat < _; omega)
      rintro s ⟨t, c, h1, h2, rfl⟩
      by_cases ht : 0 < t
      · left
        refine ⟨(0, [.i (shrI .i64 t 1), .i (IntKind.i64.wrap (c + 1))]), ?_, Nat.zero_lt_one, ⟨shrI .i64 t 1, IntKind.i64.wrap (c + 1), ?_, ?_, rfl⟩, ?_⟩
        · simp -implicitDefEqProofs only [f16_0, f16_0_0, asI_i, asE_nil, Bool.cond_decide, if_pos ht]
        · rw [shr1]; omega
        · rw [shr1]; omega
        · show (shrI .i64 t 1).toNat < t.toNat
          rw [shr1]; omega
      · right
        refine ⟨0, [.i c], ?_, c, rfl, rfl⟩
        simp -implicitDefEqProofs only [f16_0, f16_0_0, asI_i, asE_nil, Bool.cond_decide, if_neg ht]
    obtain ⟨j, r, e, w, rfl, rfl⟩ := hL
    simp -implicitDefEqProofs only [g16, g16_0, asI_i, asE_nil, Bool.cond_decide]
    by_cases h0 : x = 0
    · rw [if_pos h0]; exact ⟨0, rfl⟩
    · rw [if_neg h0, if_neg (by omega), e, altK_0, asI_i, asE_nil]; exact ⟨w, rfl⟩
  obtain ⟨w, e⟩ := key
  rw [e]
  unfold wd
  rw [e]
end Go.Proofs.Ytmghafpbaigkaaa
