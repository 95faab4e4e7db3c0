/-
  The law of a number's root. Conditions: none.
-/
import Derived.Test.YtjekhbenohnpnaaDecA
import Derived.KernelRfl
namespace Go.Proofs.Ytjekhbenohnpnaa
open Go Go.Sx
set_option maxRecDepth 100000
set_option linter.unusedVariables false
attribute [local simp] asI_i asB_b asL_l asN_n asS_s asE_nil altK_none altK_0 altK_1 altK_2 altK_3 optK_some optK_none Bool.cond_decide Bool.cond_not Int.toNat_natCast
set_option linter.unusedSimpArgs false
/-- The root, as far as k bits. -/
def rt (v : Nat) : Nat → Nat
  | 0 => 0
  | k + 1 => if (rt v k + 2 ^ (31 - k)) * (rt v k + 2 ^ (31 - k)) ≤ v then rt v k + 2 ^ (31 - k) else rt v k
theorem sq_le {a b : Nat} (h : a ≤ b) : a * a ≤ b * b := Nat.mul_le_mul h h
theorem rt_inv (v : Nat) (hv : v < 9223372036854775808) : ∀ k, k ≤ 32 → rt v k * rt v k ≤ v ∧ v < (rt v k + 2 ^ (32 - k)) * (rt v k + 2 ^ (32 - k)) ∧ rt v k + 2 ^ (32 - k) ≤ 4294967296
  | 0, _ => by
    simp only [rt]
    refine ⟨by omega, ?_, by decide⟩
    have : (0 + 2 ^ (32 - 0)) * (0 + 2 ^ (32 - 0)) = 18446744073709551616 := by decide
    omega
  | k + 1, hk => by
    obtain ⟨h1, h2, h3⟩ := rt_inv v hv k (by omega)
    have e : 2 ^ (32 - k) = 2 * 2 ^ (31 - k) := by
      rw [show 32 - k = (31 - k) + 1 by omega, Nat.pow_succ, Nat.mul_comm]
    rw [show 32 - (k + 1) = 31 - k by omega]
    rw [e] at h2 h3
    simp only [rt]
    generalize 2 ^ (31 - k) = b at *
    generalize rt v k = r at *
    split
    · rename_i h
      refine ⟨h, ?_, by omega⟩
      rw [show r + b + b = r + 2 * b by omega]
      exact h2
    · exact ⟨h1, by omega, by omega⟩
theorem bit_pow : ∀ k, k < 32 → 2147483648 / 2 ^ k = 2 ^ (31 - k) := by decide
theorem bit_half (k : Nat) : 2147483648 / 2 ^ (k + 1) = 2147483648 / 2 ^ k / 2 := by rw [Nat.pow_succ, Nat.div_div_eq_div_mul]
theorem shr1 (x : Nat) : shrI .i64 (x : Int) 1 = ((x / 2 : Nat) : Int) := by
  unfold shrI
  have : min (Int.toNat 1) (IntKind.bits .i64) = 1 := rfl
  rw [this, Int.fdiv_eq_ediv_of_nonneg _ (by omega)]
  rfl
theorem root_ok (v : Nat) (h0 : 1 ≤ v) (hv : v < 9223372036854775808) : g6 (0, [.i v]) = some (0, [.i (rt v 32 : Nat)]) := by
  have hl : L6_0 (0, [.i v, .i 0, .i 2147483648]) = some (0, [.i (rt v 32 : Nat)]) := by
    refine loop1_run (fun k => [.i v, .i (rt v k : Nat), .i (2147483648 / 2 ^ k : Nat)]) 32 (fun k hk => ?_) ?_ (by omega)
    · obtain ⟨i1, i2, i3⟩ := rt_inv v hv k (by omega)
      have e : 2 ^ (32 - k) = 2 * 2 ^ (31 - k) := by
        rw [show 32 - k = (31 - k) + 1 by omega, Nat.pow_succ, Nat.mul_comm]
      have hb : 0 < 2 ^ (31 - k) := Nat.pow_pos (by omega)
      rw [bit_half, bit_pow k hk]
      simp only [rt]
      rw [e] at i3
      generalize hbb : 2 ^ (31 - k) = b at *
      generalize hrr : rt v k = r at *
      have h1 : (0 : Int) < b := by omega
      have w1 : IntKind.i64.wrap ((r : Int) + b) = ((r + b : Nat) : Int) := by rw [wrap64 (by omega) (by omega)]; omega
      have hn : ¬ ((r + b : Nat) : Int) = 0 := by omega
      have w2 : IntKind.i64.wrap (Int.tdiv (v : Int) ((r + b : Nat) : Int)) = ((v / (r + b) : Nat) : Int) := wrap_div hv
      have hiff : (((r + b : Nat) : Int) ≤ ((v / (r + b) : Nat) : Int)) ↔ (r + b) * (r + b) ≤ v := by
        rw [← Nat.le_div_iff_mul_le (show 0 < r + b by omega)]
        omega
      simp only [f6_0, f6_0_0, asI_i, asE_nil, Bool.cond_decide, if_pos h1, w1, if_neg hn, w2, shr1]
      by_cases hc : (r + b) * (r + b) ≤ v
      · rw [if_pos (hiff.2 hc), if_pos hc]
      · rw [if_neg (fun h => hc (hiff.1 h)), if_neg hc]
    · have : 2147483648 / 2 ^ 32 = 0 := by decide
      simp only [this, f6_0, f6_0_0, asI_i, asE_nil, Bool.cond_decide]
      rfl
  have hn : ¬ (v : Int) < 1 := by omega
  simp only [g6, g6_0, asI_i, asE_nil, Bool.cond_decide, if_neg hn, hl, altK_0]
theorem root_low (v : Int) (h : v < 1) : g6 (0, [.i v]) = some (0, [.i 0]) := by
  simp only [g6, g6_0, asI_i, asE_nil, Bool.cond_decide, if_pos h]
theorem rt_spec (v : Nat) (h0 : 1 ≤ v) (hv : v < 9223372036854775808) : 0 < rt v 32 ∧ rt v 32 * rt v 32 ≤ v ∧ v < (rt v 32 + 1) * (rt v 32 + 1) ∧ rt v 32 < 4294967296 := by
  obtain ⟨h1, h2, h3⟩ := rt_inv v hv 32 (by omega)
  simp only [Nat.sub_self, Nat.pow_zero] at h2 h3
  refine ⟨?_, h1, h2, by omega⟩
  rcases Nat.eq_zero_or_pos (rt v 32) with e | e
  · rw [e] at h2; omega
  · exact e
theorem roots (v : Int) (hv : v ≤ 9223372036854775807) : g3 (0, [.i v]) = some (0, [.b true]) := by
  by_cases h : v < 1
  · simp -implicitDefEqProofs only [g3, g3_0, asI_i, asB_b, asE_nil, root_low v h, altK_0, Bool.cond_decide, if_pos h, if_true, awakeL_ok]
  · obtain ⟨n, rfl⟩ : ∃ n : Nat, v = n := ⟨v.toNat, by omega⟩
    obtain ⟨h1, h2, h3, h4⟩ := rt_spec n (by omega) (by omega)
    have hr := root_ok n (by omega) (by omega)
    generalize rt n 32 = r at *
    have c1 : (0 : Int) < r := by omega
    have c2 : ¬ (r : Int) = 0 := by omega
    have w1 : IntKind.i64.wrap (Int.tdiv (n : Int) (r : Int)) = ((n / r : Nat) : Int) := wrap_div (by omega)
    have c3 : (r : Int) ≤ ((n / r : Nat) : Int) := by
      have := (Nat.le_div_iff_mul_le h1).2 h2
      omega
    have w2 : IntKind.i64.wrap ((r : Int) + 1) = ((r + 1 : Nat) : Int) := by rw [wrap64 (by omega) (by omega)]; rfl
    have c4 : ¬ ((r + 1 : Nat) : Int) = 0 := by omega
    have w3 : IntKind.i64.wrap (Int.tdiv (n : Int) ((r + 1 : Nat) : Int)) = ((n / (r + 1) : Nat) : Int) := wrap_div (by omega)
    have c5 : ((n / (r + 1) : Nat) : Int) < ((r + 1 : Nat) : Int) := by
      have : n / (r + 1) < r + 1 := (Nat.div_lt_iff_lt_mul (by omega)).2 h3
      omega
    simp -implicitDefEqProofs only [g3, g3_0, asI_i, asB_b, asE_nil, hr, altK_0, Bool.cond_decide, if_neg h, if_pos c1, if_neg c2, w1, if_pos c3, w2, if_neg c4, w3, if_pos c5, awakeL_ok]
theorem roots_ev (v : Int) (w : (Lit.int .i64 v).wf = true) : evF tab 21 3 [.int .i64 v] [] = some (.bool true, [], []) :=
  (ok3 0).ret (i := 0) (ls := [.i v]) (j := 0) (r := [.b true]) (roots v (wf64 w).2) rfl rfl rfl rfl
end Go.Proofs.Ytjekhbenohnpnaa
