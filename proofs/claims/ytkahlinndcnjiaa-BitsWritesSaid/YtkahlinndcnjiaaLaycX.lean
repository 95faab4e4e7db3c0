/-
  The document's bytes of bits. Conditions: none.
-/
import Derived.Test.YtkahlinndcnjiaaLaybX
namespace Go.Proofs.Ytkahlinndcnjiaa
open Go Go.Sx X
set_option maxRecDepth 100000
set_option linter.unusedVariables false
attribute [local simp] asI_i asB_b asL_l asN_n asS_s asE_nil altK_none altK_0 altK_1 altK_2 altK_3 optK_some optK_none Bool.cond_decide Bool.cond_not Int.toNat_natCast
set_option linter.unusedSimpArgs false
/-! ### The document's bytes -/
theorem pack_0 {A : List Int} {m : Nat} (h : A.length / 8 < m) : packL (A ++ [0]) m = packL A m := by
  rw [← pack_set (b := 0) h rfl]
  refine List.ext_getElem? fun i => ?_
  by_cases e : A.length / 8 = i
  · subst e
    rw [List.getElem?_set_self (by rw [pack_len]; exact h), pack_get _ h]
    have hs : A.length = 8 * (A.length / 8) + A.length % 8 := by omega
    rw [byte_own hs (by omega), Int.zero_mul, Int.add_zero]
  · rw [List.getElem?_set_ne e]
theorem pack_nil (m : Nat) : packL [] m = List.replicate m 0 := by
  have := pack_pad (A := []) (m := 0) (by simp) m
  rw [Nat.zero_add] at this
  rw [← this]
  rfl
theorem whole_ok (A : List Int) (hA : B01 A) (z : Nat) (hz : z ≤ 1000) (hl : A.length ≤ 8 * z) : g16 (0, [.n A.length, .i z, .l A]) = some (0, [.n z, .l A, .l (packL A z)]) := by
  have hL : L16_0 (0, [.n A.length, .n z, .i 0, .l A, .l (List.replicate z 0)]) = some (0, [.n z, .l A, .l (packL A z)]) := by
    have main := loopL_run (m := 2) (f := f16_0) (fun j => (0, [.n A.length, .n z, .i j, .l A, .l (packL (A.take j) z)])) A.length (j := 0) (r := [.n z, .l A, .l (packL A z)]) (fun j hj => ⟨?_, by show 0 < 2; omega⟩) ?_ (by omega)
    · rw [List.take_zero, pack_nil] at main
      unfold L16_0
      exact main
    · have hx : A[j]? = some (A.getD j 0) := get_some hj
      have w2 : IntKind.i64.wrap ((j : Int) + 1) = ((j + 1 : Nat) : Int) := wrap_nat (n := j + 1) (by omega)
      have et : A.take (j + 1) = A.take j ++ [A.getD j 0] := take_snoc hx
      have hlen : (A.take j).length = j := by rw [List.length_take]; omega
      have hlt : (A.take j).length / 8 < z := by rw [hlen]; omega
      have hT : B01 (A.take j) := fun x hx => hA x (List.mem_of_mem_take hx)
      have h1 : Int.tmod (j : Int) 8 = ((j % 8 : Nat) : Int) := by rw [Int.tmod_eq_emod_of_nonneg (by omega)]; omega
      have h2 : IntKind.i64.wrap (Int.tdiv (j : Int) 8) = ((j / 8 : Nat) : Int) := by rw [Int.tdiv_eq_ediv_of_nonneg (by omega), wrap64 (by omega) (by omega)]; omega
      have h3 : IntKind.i64.wrap (7 - ((j % 8 : Nat) : Int)) = ((7 - j % 8 : Nat) : Int) := by rw [wrap64 (by omega) (by omega)]; omega
      have hp := power_ok (7 - j % 8) (by omega)
      have hb := b01_get hA j
      rw [et]
      generalize A.getD j 0 = b at *
      rcases hb with rfl | rfl
      · rw [pack_0 hlt]
        simp -implicitDefEqProofs only [f16_0, f16_0_0, asI_i, asN_n, asL_l, asE_nil, Bool.cond_decide, Bool.cond_not, if_pos (show (j : Int) < A.length by omega), if_pos (show (0 : Int) ≤ j ∧ (j : Int) < A.length by omega), Int.toNat_natCast, hx, optK_some, if_true, w2]
      · have hg : (packL (A.take j) z)[j / 8]? = some (byteV (A.take j) (j / 8)) := pack_get _ (by omega)
        have hs : (A.take j).length = 8 * (j / 8) + j % 8 := by rw [hlen]; omega
        have ho := byte_own (b := 1) hs (by omega)
        rw [Int.one_mul] at ho
        have hi := byte_in (b01_app hT (B := [1]) (fun x hx => by rw [List.mem_singleton.1 hx]; exact Or.inr rfl)) (j / 8)
        have hp2 := pw_pos (7 - j % 8)
        have hi0 := byte_in hT (j / 8)
        have hset := pack_set (A := A.take j) (b := 1) hlt rfl
        rw [hlen, ho] at hset
        rw [ho] at hi
        have u1 : IntKind.u8.wrap (pw (7 - j % 8)) = pw (7 - j % 8) := IntWalk.u8_in _ (by omega)
        have u2 : IntKind.u8.wrap (byteV (A.take j) (j / 8) + pw (7 - j % 8)) = byteV (A.take j) (j / 8) + pw (7 - j % 8) := IntWalk.u8_in _ (by omega)
        rw [← hset]
        generalize byteV (A.take j) (j / 8) = x at *
        simp -implicitDefEqProofs only [f16_0, f16_0_0, asI_i, asN_n, asL_l, asE_nil, Bool.cond_decide, Bool.cond_not, if_pos (show (j : Int) < A.length by omega), if_pos (show (0 : Int) ≤ j ∧ (j : Int) < A.length by omega), Int.toNat_natCast, hx, optK_some, if_neg (show ¬ (1 : Int) = 0 by omega), h1, h2, h3, if_pos (show (0 : Int) ≤ ((j / 8 : Nat) : Int) ∧ ((j / 8 : Nat) : Int) < z by omega), hg, hp, altK_0, pack_len, if_pos (show j / 8 < z by omega), u1, u2, w2]
    · rw [List.take_length]
      simp -implicitDefEqProofs only [f16_0, f16_0_0, asI_i, asN_n, asL_l, asE_nil, Bool.cond_decide, if_neg (Int.lt_irrefl _)]
  simp -implicitDefEqProofs only [g16, g16_0, asI_i, asN_n, asL_l, asE_nil, if_true, if_pos (show (0 : Int) ≤ (z : Int) by omega), if_pos (show (1 : Int) * (z : Int) ≤ 140737488355328 by omega), if_pos (show (z : Int) ≤ 9223372036854775807 by omega), Int.toNat_natCast, hL, altK_0]
theorem whole_nil (z : Nat) (hz : z ≤ 1000) : g16 (1, [.i z]) = some (1, [.n z, .l (List.replicate z 0)]) := by
  have hL : L16_0 (1, [.n z, .i 0, .l (List.replicate z 0)]) = some (1, [.n z, .l (List.replicate z 0)]) := loopL_last (m := 2) (f := f16_0) (j := 1) (by
    simp -implicitDefEqProofs only [f16_0, f16_0_1, asI_i, asN_n, asL_l, asE_nil, Bool.cond_decide, if_neg (Int.lt_irrefl _)])
  simp -implicitDefEqProofs only [g16, g16_1, asI_i, asN_n, asL_l, asE_nil, if_true, if_pos (show (0 : Int) ≤ (z : Int) by omega), if_pos (show (1 : Int) * (z : Int) ≤ 140737488355328 by omega), if_pos (show (z : Int) ≤ 9223372036854775807 by omega), Int.toNat_natCast, hL, altK_1]
theorem same_ok (z : Nat) (b : List Int) (hb : b.length = z) : g15 (0, [.n z, .n z, .l b, .l b]) = some (0, [.b true, .l b, .l b]) := by
  simp -implicitDefEqProofs only [g15, g15_0, asN_n, asL_l, asE_nil, if_pos (show 0 + z ≤ b.length by omega), decide_true]
end Go.Proofs.Ytkahlinndcnjiaa
