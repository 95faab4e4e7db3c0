/-
  What a writer of bits and the document's say of an item. Conditions: none.
-/
import Derived.Test.YtkahlinndcnjiaaPutX
import Derived.Test.YtkahlinndcnjiaaWrB
namespace Go.Proofs.Ytkahlinndcnjiaa
open Go Go.Sx X
set_option maxRecDepth 100000
set_option linter.unusedVariables false
attribute [local simp] asI_i asB_b asL_l asN_n asS_s asE_nil altK_none altK_0 altK_1 altK_2 altK_3 optK_some optK_none Bool.cond_decide Bool.cond_not Int.toNat_natCast
set_option linter.unusedSimpArgs false
/-! ### Bits behind bytes -/
theorem step_pack {v : Int} (h0 : 0 ≤ v) (h1 : v ≤ 18446744073709551615) {t : Nat} (ht : t ≤ 64) {A : List Int} (hA : B01 A) :
    bitStep v t (packL A ((A.length + 7) / 8), A.length) = (packL (A ++ [bv v t]) ((A.length + 1 + 7) / 8), A.length + 1) := by
  have er : roomV A.length (packL A ((A.length + 7) / 8)) = packL A ((A.length + 1 + 7) / 8) := by
    unfold roomV
    by_cases c : A.length % 8 = 0
    · rw [if_pos c, pack_more (by omega), show (A.length + 7) / 8 + 1 = (A.length + 1 + 7) / 8 by omega]
    · rw [if_neg c, show (A.length + 7) / 8 = (A.length + 1 + 7) / 8 by omega]
  show ((roomV A.length (packL A ((A.length + 7) / 8))).set (A.length / 8) (bitV v t A.length ((roomV A.length (packL A ((A.length + 7) / 8))).getD (A.length / 8) 0)), A.length + 1) = _
  rw [er]
  have hlt : A.length / 8 < (A.length + 1 + 7) / 8 := by omega
  have hg : (packL A ((A.length + 1 + 7) / 8)).getD (A.length / 8) 0 = byteV A (A.length / 8) := by
    rw [List.getD_eq_getElem?_getD, pack_get A hlt]; rfl
  rw [hg]
  have hs : A.length = 8 * (A.length / 8) + A.length % 8 := by omega
  have hs8 : A.length % 8 < 8 := by omega
  have hx := byte_in hA (A.length / 8)
  have e : bitV v t A.length (byteV A (A.length / 8)) = byteV (A ++ [bv v t]) (A.length / 8) := by
    unfold bitV
    rw [bit_val h0 h1 ht, or_byte hx.1 hx.2 hs8 (bv_01 v t) (byte_low hA hs hs8), byte_own hs hs8]
  rw [e, pack_set hlt rfl]
theorem bits_pack {v : Int} (h0 : 0 ≤ v) (h1 : v ≤ 18446744073709551615) {K : Nat} (hK : K ≤ 64) {A : List Int} (hA : B01 A) : ∀ j, j ≤ K →
    bitsF v K (packL A ((A.length + 7) / 8), A.length) j = (packL (A ++ topL v K j) ((A.length + j + 7) / 8), A.length + j)
  | 0, _ => by show _ = (packL (A ++ []) _, _); rw [List.append_nil]; rfl
  | j + 1, hj => by
    show bitStep v (K - 1 - j) (bitsF v K (packL A ((A.length + 7) / 8), A.length) j) = _
    rw [bits_pack h0 h1 hK hA j (by omega)]
    have hl : (A ++ topL v K j).length = A.length + j := by rw [List.length_append, topL_len]
    have := step_pack h0 h1 (t := K - 1 - j) (by omega) (b01_app hA (topL_01 v K j))
    rw [hl] at this
    rw [this, List.append_assoc]
    rfl
/-- A writer that has laid these bits. -/
def wr (A : List Int) (e : Int) : Wr := (packL A ((A.length + 7) / 8), A.length, e)
theorem wr_ok0 {A : List Int} {e : Int} {m : Nat} (h : A.length ≤ m) : WOk m (wr A e) := by
  refine ⟨?_, h⟩
  show (packL A _).length = _
  rw [pack_len]; rfl
def wput (A : List Int) (e K v : Int) : List Int × Int := if e ≠ 0 then (A, e) else if K < 0 ∨ 57 < K ∨ pw K.toNat ≤ v then (A, 5) else (A ++ topL v K.toNat K.toNat, 0)
theorem wput_eq {v : Int} (h0 : 0 ≤ v) (h1 : v ≤ 18446744073709551615) {A : List Int} (hA : B01 A) (e K : Int) : wrV K (wr A e) v = wr (wput A e K v).1 (wput A e K v).2 := by
  unfold wrV wput
  by_cases c : e ≠ 0
  · rw [if_pos c, if_pos (show (wr A e).2.2 ≠ 0 from c)]
  · obtain rfl := Classical.not_not.1 c
    rw [if_neg c, if_neg (show ¬ (wr A 0).2.2 ≠ 0 from c)]
    have hk : ¬ K < 0 → ¬ 57 < K → (shrI .u64 v K ≠ 0 ↔ pw K.toNat ≤ v) := fun q1 q2 => by
      obtain ⟨k, rfl⟩ : ∃ k : Nat, K = k := ⟨K.toNat, by omega⟩
      rw [shrU k (by omega), Int.toNat_natCast]
      have hp := pw_pos k
      constructor
      · intro q
        apply Int.not_lt.1
        intro r
        exact q (Int.ediv_eq_zero_of_lt h0 r)
      · intro q r
        have := (Int.le_ediv_iff_mul_le (a := 1) (b := v) (c := pw k) (by omega)).2 (by omega)
        omega
    by_cases c1 : K < 0 ∨ 57 < K ∨ pw K.toNat ≤ v
    · rw [if_pos c1, if_pos]
      · rfl
      · by_cases q1 : K < 0
        · exact Or.inl q1
        · by_cases q2 : 57 < K
          · exact Or.inr (Or.inl q2)
          · exact Or.inr (Or.inr ((hk q1 q2).2 (by rcases c1 with c1 | c1 | c1; exact absurd c1 q1; exact absurd c1 q2; exact c1)))
    · rw [if_neg c1, if_neg]
      · have q1 : ¬ K < 0 := fun q => c1 (Or.inl q)
        have q2 : ¬ 57 < K := fun q => c1 (Or.inr (Or.inl q))
        have hb := bits_pack h0 h1 (K := K.toNat) (by omega) hA K.toNat (Nat.le_refl _)
        show ((bitsF v K.toNat (packL A ((A.length + 7) / 8), A.length) K.toNat).1, (bitsF v K.toNat (packL A ((A.length + 7) / 8), A.length) K.toNat).2, (0 : Int)) = wr (A ++ topL v K.toNat K.toNat) 0
        rw [hb]
        unfold wr
        rw [List.length_append, topL_len]
      · have q1 : ¬ K < 0 := fun q => c1 (Or.inl q)
        have q2 : ¬ 57 < K := fun q => c1 (Or.inr (Or.inl q))
        rintro (q | q | q)
        · exact q1 q
        · exact q2 q
        · exact c1 (Or.inr (Or.inr ((hk q1 q2).1 q)))
theorem wput_01 {A : List Int} (hA : B01 A) (e K v : Int) : B01 (wput A e K v).1 := by
  unfold wput
  (repeat' split)
  · exact hA
  · exact hA
  · exact b01_app hA (topL_01 _ _ _)
theorem wput_len (A : List Int) (e K v : Int) : A.length ≤ (wput A e K v).1.length ∧ (wput A e K v).1.length ≤ A.length + 57 := by
  unfold wput
  (repeat' split)
  · exact ⟨Nat.le_refl _, by show A.length ≤ A.length + 57; omega⟩
  · exact ⟨Nat.le_refl _, by show A.length ≤ A.length + 57; omega⟩
  · rename_i q
    show A.length ≤ (A ++ _).length ∧ (A ++ _).length ≤ _
    rw [List.length_append, topL_len]
    omega
end Go.Proofs.Ytkahlinndcnjiaa
