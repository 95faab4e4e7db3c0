/-
  The law of how many bits a number needs. Conditions: none.
-/
import Derived.Test.YtmankoejlflhmaaDecA
import Derived.Test.YtmankoejlflhmaaSxW
import Derived.KernelRfl
namespace Go.Proofs.Ytmankoejlflhmaa
open Go Go.Sx
set_option maxRecDepth 100000
set_option linter.unusedVariables false
attribute [local simp] asI_i asB_b asL_l asN_n asS_s asE_nil altK_none altK_0 altK_1 altK_2 altK_3 optK_some optK_none Bool.cond_decide Bool.cond_not Int.toNat_natCast
set_option linter.unusedSimpArgs false
def sz (x : Nat) : Nat := if h : x = 0 then 0 else sz (x / 2) + 1
termination_by x
decreasing_by omega
theorem sz_zero : sz 0 = 0 := by unfold sz; simp
theorem sz_pos {x : Nat} (h : x ≠ 0) : sz x = sz (x / 2) + 1 := by rw [sz, dif_neg h]
theorem sz_le : ∀ (k x : Nat), x < 2 ^ k → sz x ≤ k
  | 0, x, h => by
    have : x = 0 := by simpa using h
    rw [this, sz_zero]; exact Nat.le_refl _
  | k + 1, x, h => by
    by_cases hx : x = 0
    · rw [hx, sz_zero]; omega
    · rw [sz_pos hx]
      have := sz_le k (x / 2) (by rw [Nat.pow_succ] at h; omega)
      omega
theorem shr1 (x : Nat) : shrI .i64 (x : Int) 1 = ((x / 2 : Nat) : Int) := by
  unfold shrI
  have : min (Int.toNat 1) (IntKind.bits .i64) = 1 := rfl
  rw [this, Int.fdiv_eq_ediv_of_nonneg _ (by omega)]
  rfl
theorem not_ok (a : Int) (h : -9223372036854775808 ≤ a) (h2 : a < 0) : bXor .i64 (-1) a = -a - 1 := by
  unfold bXor
  have e : (BitVec.ofInt 64 (-1) ^^^ BitVec.ofInt 64 a).toNat = 18446744073709551615 - (a + 18446744073709551616).toNat := by
    have h1 : BitVec.ofInt 64 (-1) = BitVec.allOnes 64 := rfl
    rw [h1, BitVec.allOnes_xor, BitVec.toNat_not, BitVec.toNat_ofInt]
    have : (a % ((2 ^ 64 : Nat) : Int)).toNat = (a + 18446744073709551616).toNat := by omega
    rw [this]
  show IntKind.i64.wrap ((BitVec.ofInt 64 (-1) ^^^ BitVec.ofInt 64 a).toNat : Nat) = _
  rw [e, wrap64 (by omega) (by omega)]
  omega
theorem widthL (n : Nat) : ∀ (x fuel : Nat), x < 9223372036854775808 → n + sz x < 4611686018427387904 → sz x < fuel → iterL 1 f16_0 fuel (0, [.i x, .i n]) = some (0, [.i (n + sz x : Nat)]) := by
  intro x
  induction x using Nat.strongRecOn generalizing n with
  | _ x ih =>
    intro fuel hx hn hf
    obtain ⟨fuel, rfl⟩ : ∃ k, fuel = k + 1 := ⟨fuel - 1, by omega⟩
    by_cases h0 : x = 0
    · subst h0
      rw [sz_zero]
      exact loop_last (m := 1) (j := 0) (by simp [f16_0, f16_0_0]) _
    · have hs := sz_pos h0
      have h1 : (0 : Int) < x := by omega
      have w2 : IntKind.i64.wrap ((n : Int) + 1) = ((n + 1 : Nat) : Int) := by rw [wrap64 (by omega) (by omega)]; rfl
      rw [loop_step (s' := (0, [.i (x / 2 : Nat), .i (n + 1 : Nat)])) (by simp only [f16_0, f16_0_0, asI_i, asE_nil, Bool.cond_decide, if_pos h1, shr1, w2]) Nat.zero_lt_one]
      rw [ih (x / 2) (by omega) (n + 1) fuel (by omega) (by omega) (by omega), hs]
      congr 5
      omega
/-- How many bits a number needs. -/
def szV (v : Int) : Nat := if v = 0 then 0 else if v < 0 then 1 + sz (-v - 1).toNat else 1 + sz v.toNat
theorem sz_small (x : Nat) (h : x < 9223372036854775808) : sz x ≤ 63 := sz_le 63 x h
theorem width_ok (v : Int) (h1 : -9223372036854775808 ≤ v) (h2 : v ≤ 9223372036854775807) : g16 (0, [.i v]) = some (0, [.i (szV v : Nat)]) := by
  by_cases h0 : v = 0
  · subst h0
    simp [g16, g16_0, szV]
  · by_cases hn : v < 0
    · obtain ⟨x, hx⟩ : ∃ x : Nat, (x : Int) = -v - 1 := ⟨(-v - 1).toNat, by omega⟩
      have hs := sz_small x (by omega)
      have hl : L16_0 (0, [.i x, .i 1]) = some (0, [.i (1 + sz x : Nat)]) := widthL 1 x loopFuel (by omega) (by omega) (fuel_pos (by omega))
      have hxt : (-v - 1).toNat = x := by omega
      simp only [g16, g16_0, asI_i, asE_nil, Bool.cond_decide, if_neg h0, if_pos hn, not_ok v h1 hn, ← hx, hl, altK_0]
      simp only [szV, if_neg h0, if_pos hn, hxt]
    · obtain ⟨x, hx⟩ : ∃ x : Nat, (x : Int) = v := ⟨v.toNat, by omega⟩
      have hs := sz_small x (by omega)
      have hl : L16_0 (0, [.i x, .i 1]) = some (0, [.i (1 + sz x : Nat)]) := widthL 1 x loopFuel (by omega) (by omega) (fuel_pos (by omega))
      have hxt : v.toNat = x := by omega
      rw [hx] at hl
      simp only [g16, g16_0, asI_i, asE_nil, Bool.cond_decide, if_neg h0, if_neg hn, hl, altK_0]
      simp only [szV, if_neg h0, if_neg hn, hxt]
theorem szV_le (v : Int) (h1 : -9223372036854775808 ≤ v) (h2 : v ≤ 9223372036854775807) : szV v ≤ 64 := by
  unfold szV
  split
  · omega
  · split
    · have := sz_small (-v - 1).toNat (by omega)
      omega
    · have := sz_small v.toNat (by omega)
      omega
/-! The greatest of each quarter, as far as k. -/
def M (w : Nat → Nat) (j : Nat) : Nat → Nat
  | 0 => 0
  | k + 1 => if k / 4 = j then max (M w j k) (w k) else M w j k
theorem M_before (w : Nat → Nat) (j : Nat) : ∀ k, k ≤ 4 * j → M w j k = 0
  | 0, _ => rfl
  | k + 1, h => by
    simp only [M]
    rw [if_neg (by omega)]
    exact M_before w j k (by omega)
theorem M_behind (w : Nat → Nat) (j : Nat) : ∀ n, M w j (4 * j + 4 + n) = M w j (4 * j + 4)
  | 0 => rfl
  | n + 1 => by
    rw [← Nat.add_assoc]
    simp only [M]
    rw [if_neg (by omega)]
    exact M_behind w j n
theorem M_step (w : Nat → Nat) (j k : Nat) (h1 : 4 * j ≤ k) (h2 : k < 4 * j + 4) : M w j (k + 1) = max (M w j k) (w k) := by
  simp only [M]
  rw [if_pos (by omega)]
theorem M_le (w : Nat → Nat) (B : Nat) (h : ∀ k, w k ≤ B) (j : Nat) : ∀ k, M w j k ≤ B
  | 0 => Nat.zero_le _
  | k + 1 => by
    simp only [M]
    split
    · exact Nat.max_le.2 ⟨M_le w B h j k, h k⟩
    · exact M_le w B h j k
def Ms (w : Nat → Nat) (k : Nat) : List Int := [(M w 0 k : Int), M w 1 k, M w 2 k, M w 3 k]
theorem Ms_get (w : Nat → Nat) (k j : Nat) (h : j < 4) : (Ms w k)[j]? = some (M w j k : Int) := by
  match j, h with
  | 0, _ => rfl
  | 1, _ => rfl
  | 2, _ => rfl
  | 3, _ => rfl
theorem Ms_set (w : Nat → Nat) (k : Nat) (h : k < 16) : (Ms w k).set (k / 4) (max (M w (k / 4) k) (w k) : Nat) = Ms w (k + 1) := by
  have h4 : k / 4 = 0 ∨ k / 4 = 1 ∨ k / 4 = 2 ∨ k / 4 = 3 := by omega
  rcases h4 with e | e | e | e <;> simp [Ms, M, e]
theorem max_cast (a b : Nat) : (if (b : Int) > a then (b : Int) else a) = ((max a b : Nat) : Int) := by
  split <;> omega
end Go.Proofs.Ytmankoejlflhmaa
