/-
  The law of how many bits a number needs. Conditions: none.
-/
import Derived.Test.YthgmblahjndpaaaDecA
import Derived.Test.YthgmblahjndpaaaSxW
import Derived.KernelRfl
namespace Go.Proofs.Ythgmblahjndpaaa
open Go Go.Sx
set_option maxRecDepth 100000
set_option linter.unusedVariables false
attribute [local simp] asI_i asB_b asL_l asN_n asS_s asE_nil altK_none altK_0 altK_1 altK_2 altK_3 optK_some optK_none Bool.cond_decide Bool.cond_not Int.toNat_natCast
set_option linter.unusedSimpArgs false
theorem awakeW : g11 (0, []) = some (0, [.b true]) := by kernel_rfl
def sz (x : Nat) : Nat := if h : x = 0 then 0 else sz (x / 2) + 1
termination_by x
decreasing_by omega
theorem sz_zero : sz 0 = 0 := by unfold sz; simp
theorem sz_pos {x : Nat} (h : x ≠ 0) : sz x = sz (x / 2) + 1 := by rw [sz, dif_neg h]
theorem sz_le : ∀ (k x : Nat), x < 2 ^ k → sz x ≤ k
  | 0, x, h => by
    have : x = 0 := by simpa using h
    rw [this, sz_zero]; exact Nat.le_refl _
  | k + 1, x, h => by
    by_cases hx : x = 0
    · rw [hx, sz_zero]; omega
    · rw [sz_pos hx]
      have := sz_le k (x / 2) (by rw [Nat.pow_succ] at h; omega)
      omega
theorem shr1 (x : Nat) : shrI .i64 (x : Int) 1 = ((x / 2 : Nat) : Int) := by
  unfold shrI
  have : min (Int.toNat 1) (IntKind.bits .i64) = 1 := rfl
  rw [this, Int.fdiv_eq_ediv_of_nonneg _ (by omega)]
  rfl
theorem not_ok (a : Int) (h : -9223372036854775808 ≤ a) (h2 : a < 0) : bXor .i64 (-1) a = -a - 1 := by
  unfold bXor
  have e : (BitVec.ofInt 64 (-1) ^^^ BitVec.ofInt 64 a).toNat = 18446744073709551615 - (a + 18446744073709551616).toNat := by
    have h1 : BitVec.ofInt 64 (-1) = BitVec.allOnes 64 := rfl
    rw [h1, BitVec.allOnes_xor, BitVec.toNat_not, BitVec.toNat_ofInt]
    have : (a % ((2 ^ 64 : Nat) : Int)).toNat = (a + 18446744073709551616).toNat := by omega
    rw [this]
  show IntKind.i64.wrap ((BitVec.ofInt 64 (-1) ^^^ BitVec.ofInt 64 a).toNat : Nat) = _
  rw [e, wrap64 (by omega) (by omega)]
  omega
theorem widthL (n : Nat) : ∀ (x fuel : Nat), x < 9223372036854775808 → n + sz x < 4611686018427387904 → sz x < fuel → iterL 1 f13_0 fuel (0, [.i x, .i n]) = some (0, [.i (n + sz x : Nat)]) := by
  intro x
  induction x using Nat.strongRecOn generalizing n with
  | _ x ih =>
    intro fuel hx hn hf
    obtain ⟨fuel, rfl⟩ : ∃ k, fuel = k + 1 := ⟨fuel - 1, by omega⟩
    by_cases h0 : x = 0
    · subst h0
      rw [sz_zero]
      exact loop_last (m := 1) (j := 0) (by simp [f13_0, f13_0_0]) _
    · have hs := sz_pos h0
      have h1 : (0 : Int) < x := by omega
      have w2 : IntKind.i64.wrap ((n : Int) + 1) = ((n + 1 : Nat) : Int) := by rw [wrap64 (by omega) (by omega)]; rfl
      rw [loop_step (s' := (0, [.i (x / 2 : Nat), .i (n + 1 : Nat)])) (by simp only [f13_0, f13_0_0, asI_i, asE_nil, Bool.cond_decide, if_pos h1, shr1, w2]) Nat.zero_lt_one]
      rw [ih (x / 2) (by omega) (n + 1) fuel (by omega) (by omega) (by omega), hs]
      congr 5
      omega
theorem lawL (v : Int) (n : Nat) : ∀ (x fuel : Nat), x < 9223372036854775808 → n + sz x < 4611686018427387904 → sz x < fuel → iterL 1 f4_0 fuel (0, [.i v, .i n, .i x]) = some (0, [.i v, .i (n + sz x : Nat)]) := by
  intro x
  induction x using Nat.strongRecOn generalizing n with
  | _ x ih =>
    intro fuel hx hn hf
    obtain ⟨fuel, rfl⟩ : ∃ k, fuel = k + 1 := ⟨fuel - 1, by omega⟩
    by_cases h0 : x = 0
    · subst h0
      rw [sz_zero]
      exact loop_last (m := 1) (j := 0) (by simp [f4_0, f4_0_0]) _
    · have hs := sz_pos h0
      have h1 : (0 : Int) < x := by omega
      have w2 : IntKind.i64.wrap ((n : Int) + 1) = ((n + 1 : Nat) : Int) := by rw [wrap64 (by omega) (by omega)]; rfl
      have w3 : IntKind.i64.wrap (Int.tdiv (x : Int) 2) = ((x / 2 : Nat) : Int) := by rw [show Int.tdiv (x : Int) 2 = ((x / 2 : Nat) : Int) from rfl]; exact wrap64 (by omega) (by omega)
      rw [loop_step (s' := (0, [.i v, .i (n + 1 : Nat), .i (x / 2 : Nat)])) (by simp only [f4_0, f4_0_0, asI_i, asE_nil, Bool.cond_decide, if_pos h1, w2, w3]) Nat.zero_lt_one]
      rw [ih (x / 2) (by omega) (n + 1) fuel (by omega) (by omega) (by omega), hs]
      congr 6
      omega
/-- How many bits a number needs. -/
def szV (v : Int) : Nat := if v = 0 then 0 else if v < 0 then 1 + sz (-v - 1).toNat else 1 + sz v.toNat
theorem sz_small (x : Nat) (h : x < 9223372036854775808) : sz x ≤ 63 := sz_le 63 x h
theorem width_ok (v : Int) (h1 : -9223372036854775808 ≤ v) (h2 : v ≤ 9223372036854775807) : g13 (0, [.i v]) = some (0, [.i (szV v : Nat)]) := by
  by_cases h0 : v = 0
  · subst h0
    simp [g13, g13_0, szV]
  · by_cases hn : v < 0
    · obtain ⟨x, hx⟩ : ∃ x : Nat, (x : Int) = -v - 1 := ⟨(-v - 1).toNat, by omega⟩
      have hs := sz_small x (by omega)
      have hl : L13_0 (0, [.i x, .i 1]) = some (0, [.i (1 + sz x : Nat)]) := widthL 1 x loopFuel (by omega) (by omega) (fuel_pos (by omega))
      have hxt : (-v - 1).toNat = x := by omega
      simp only [g13, g13_0, asI_i, asE_nil, Bool.cond_decide, if_neg h0, if_pos hn, not_ok v h1 hn, ← hx, hl, altK_0]
      simp only [szV, if_neg h0, if_pos hn, hxt]
    · obtain ⟨x, hx⟩ : ∃ x : Nat, (x : Int) = v := ⟨v.toNat, by omega⟩
      have hs := sz_small x (by omega)
      have hl : L13_0 (0, [.i x, .i 1]) = some (0, [.i (1 + sz x : Nat)]) := widthL 1 x loopFuel (by omega) (by omega) (fuel_pos (by omega))
      have hxt : v.toNat = x := by omega
      rw [hx] at hl
      simp only [g13, g13_0, asI_i, asE_nil, Bool.cond_decide, if_neg h0, if_neg hn, hl, altK_0]
      simp only [szV, if_neg h0, if_neg hn, hxt]
theorem widths (v : Int) (h1 : -9223372036854775808 ≤ v) (h2 : v ≤ 9223372036854775807) : g4 (0, [.i v]) = some (0, [.b true]) := by
  have hw := width_ok v h1 h2
  by_cases hn : v < 0
  · obtain ⟨x, hx⟩ : ∃ x : Nat, (x : Int) = -v - 1 := ⟨(-v - 1).toNat, by omega⟩
    have hs := sz_small x (by omega)
    have hl : L4_0 (0, [.i v, .i 0, .i x]) = some (0, [.i v, .i (0 + sz x : Nat)]) := lawL v 0 x loopFuel (by omega) (by omega) (fuel_pos (by omega))
    have e0 : v ≠ 0 := by omega
    have e1 : IntKind.i64.wrap (0 - IntKind.i64.wrap (v + 1)) = x := by rw [wrap64 (x := v + 1) (by omega) (by omega), wrap64 (by omega) (by omega)]; omega
    have e2 : IntKind.i64.wrap (((0 + sz x : Nat) : Int) + 1) = ((1 + sz x : Nat) : Int) := by rw [wrap64 (by omega) (by omega)]; omega
    have e3 : szV v = 1 + sz x := by
      have hxt : (-v - 1).toNat = x := by omega
      simp only [szV, if_neg e0, if_pos hn, hxt]
    rw [e3] at hw
    simp only [g4, g4_0, asI_i, asB_b, asE_nil, Bool.cond_decide, if_pos hn, e1, hl, altK_0, if_pos e0, hw, e2, if_true, awakeW]
  · obtain ⟨x, hx⟩ : ∃ x : Nat, (x : Int) = v := ⟨v.toNat, by omega⟩
    have hs := sz_small x (by omega)
    have hl : L4_0 (0, [.i v, .i 0, .i x]) = some (0, [.i v, .i (0 + sz x : Nat)]) := lawL v 0 x loopFuel (by omega) (by omega) (fuel_pos (by omega))
    rw [hx] at hl
    by_cases e0 : v = 0
    · have hx0 : x = 0 := by omega
      rw [hx0, sz_zero] at hl
      have e3 : szV v = 0 := by simp [szV, e0]
      rw [e3] at hw
      have e4 : ¬ v ≠ 0 := by omega
      simp only [g4, g4_0, asI_i, asB_b, asE_nil, Bool.cond_decide, if_neg hn, hl, altK_0, if_neg e4, hw, awakeW]
      rfl
    · have e2 : IntKind.i64.wrap (((0 + sz x : Nat) : Int) + 1) = ((1 + sz x : Nat) : Int) := by rw [wrap64 (by omega) (by omega)]; omega
      have e3 : szV v = 1 + sz x := by
        have hxt : v.toNat = x := by omega
        simp only [szV, if_neg e0, if_neg hn, hxt]
      rw [e3] at hw
      have e4 : v ≠ 0 := e0
      simp only [g4, g4_0, asI_i, asB_b, asE_nil, Bool.cond_decide, if_neg hn, hl, altK_0, if_pos e4, hw, e2, if_true, awakeW]
theorem widths_ev (v : Int) (w : (Lit.int .i64 v).wf = true) : evF tab 3 4 [.int .i64 v] [] = some (.bool true, [], []) :=
  (ok4 0).ret (i := 0) (ls := [.i v]) (j := 0) (r := [.b true]) (widths v (wf64 w).1 (wf64 w).2) rfl rfl rfl rfl
end Go.Proofs.Ythgmblahjndpaaa
