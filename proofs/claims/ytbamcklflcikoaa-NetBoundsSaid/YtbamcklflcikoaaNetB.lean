/-
  The law of how great a spectrum's numbers are. Conditions: none.
-/
import Derived.Test.YtbamcklflcikoaaNetL
namespace Go.Proofs.Ytbamcklflcikoaa
open Go Go.Sx A
set_option maxRecDepth 100000
set_option linter.unusedVariables false
attribute [local simp] asI_i asB_b asL_l asN_n asS_s asE_nil altK_none altK_0 altK_1 altK_2 altK_3 optK_some optK_none Bool.cond_decide Bool.cond_not Int.toNat_natCast
set_option linter.unusedSimpArgs false

theorem roundV_eq {v : Int} (hv : -1152921504606846976 ≤ v ∧ v ≤ 1152921504606846976) : roundV v = (v + 8192) / 16384 := by
  have e1 : shrI .i64 v 14 = v / 16384 := Int.fdiv_eq_ediv_of_nonneg _ (by decide)
  have e2 : shrI .i64 v 13 = v / 8192 := Int.fdiv_eq_ediv_of_nonneg _ (by decide)
  have e3 : bAnd .i64 (shrI .i64 v 13) 1 = v / 8192 % 2 := by rw [e2]; exact and_one _
  unfold roundV w64
  rw [e3, e1, wrap64 (by omega) (by omega)]
  omega
theorem pmul {p v M : Int} (hp : 0 ≤ p ∧ p ≤ 16384) (hv : -M ≤ v ∧ v ≤ M) (hM : 0 ≤ M) : -(16384 * M) ≤ p * v ∧ p * v ≤ 16384 * M := by
  have a := Int.mul_le_mul_of_nonneg_left hv.2 hp.1
  have b := Int.mul_le_mul_of_nonneg_right hp.2 hM
  have c := Int.mul_le_mul_of_nonneg_left hv.1 hp.1
  rw [Int.mul_neg] at c
  omega
theorem part_eq {p v M : Int} (hp : 0 ≤ p ∧ p ≤ 16384) (hv : -M ≤ v ∧ v ≤ M) (hM : 0 ≤ M ∧ M ≤ 35184372088832) : partV p v = (p * v + 8192) / 16384 ∧ -M ≤ (p * v + 8192) / 16384 ∧ (p * v + 8192) / 16384 ≤ M := by
  have hb := pmul hp hv hM.1
  unfold partV w64
  generalize p * v = t at hb ⊢
  rw [wrap64 (by omega) (by omega), roundV_eq (by omega)]
  exact ⟨rfl, by omega⟩
theorem turn_eq {p u x y m : Int} (hp : 0 ≤ p ∧ p ≤ 16384) (hu : 0 ≤ u ∧ u ≤ 16384) (hm : 0 ≤ m ∧ m ≤ 549755813888) (hx : -m ≤ x ∧ x ≤ m) (hy : -m ≤ y ∧ y ≤ m) :
    ∃ r1 r2 r3, (turnV p u x y).1 = x + r1 + r3 ∧ (turnV p u x y).2 = y - r2 ∧ r1 = (p * y + 8192) / 16384 ∧ r2 = (u * (x + r1) + 8192) / 16384 ∧ r3 = (p * (y - r2) + 8192) / 16384 := by
  obtain ⟨a1, a2, a3⟩ := part_eq hp hy (by omega)
  obtain ⟨r1, hr1⟩ : ∃ r, r = (p * y + 8192) / 16384 := ⟨_, rfl⟩
  rw [← hr1] at a1 a2 a3
  obtain ⟨b1, b2, b3⟩ := part_eq (M := 2 * m) hu (v := x + r1) (by omega) (by omega)
  obtain ⟨r2, hr2⟩ : ∃ r, r = (u * (x + r1) + 8192) / 16384 := ⟨_, rfl⟩
  rw [← hr2] at b1 b2 b3
  obtain ⟨c1, c2, c3⟩ := part_eq (M := 3 * m) hp (v := y - r2) (by omega) (by omega)
  obtain ⟨r3, hr3⟩ : ∃ r, r = (p * (y - r2) + 8192) / 16384 := ⟨_, rfl⟩
  rw [← hr3] at c1 c2 c3
  have w1 : w64 (x + partV p y) = x + r1 := by unfold w64; rw [a1, wrap64 (by omega) (by omega)]
  have w2 : w64 (y - partV u (w64 (x + partV p y))) = y - r2 := by rw [w1, b1]; unfold w64; rw [wrap64 (by omega) (by omega)]
  refine ⟨r1, r2, r3, ?_, ?_, hr1, hr2, hr3⟩
  · unfold turnV
    have w2' : w64 (y - partV u (x + r1)) = y - r2 := by rw [← w1]; exact w2
    simp only [w1, w2', c1]
    exact wrap64 (x := x + r1 + r3) (by omega) (by omega)
  · unfold turnV
    simp only [w2]

theorem bd_0 {m x y : Int} (hm : 0 ≤ m ∧ m ≤ 549755813888) (hx : -m ≤ x ∧ x ≤ m) (hy : -m ≤ y ∧ y ≤ m) : (-(3 * m + 4) ≤ (turnV 512 1023 x y).1 ∧ (turnV 512 1023 x y).1 ≤ 3 * m + 4) ∧ (-(3 * m + 4) ≤ (turnV 512 1023 x y).2 ∧ (turnV 512 1023 x y).2 ≤ 3 * m + 4) := by
  obtain ⟨r1, r2, r3, e1, e2, h1, h2, h3⟩ := turn_eq (p := 512) (u := 1023) (by omega) (by omega) hm hx hy
  rw [e1, e2]
  have f1 : 16384 * r1 ≤ 512 * y + 8192 ∧ 512 * y + 8192 < 16384 * r1 + 16384 := by omega
  have f2 : 16384 * r2 ≤ 1023 * (x + r1) + 8192 ∧ 1023 * (x + r1) + 8192 < 16384 * r2 + 16384 := by omega
  have f3 : 16384 * r3 ≤ 512 * (y - r2) + 8192 ∧ 512 * (y - r2) + 8192 < 16384 * r3 + 16384 := by omega
  clear h1 h2 h3 e1 e2
  obtain ⟨hm0, hm1⟩ := hm
  refine ⟨⟨?_, ?_⟩, ?_, ?_⟩ <;> omega
theorem bd_1 {m x y : Int} (hm : 0 ≤ m ∧ m ≤ 549755813888) (hx : -m ≤ x ∧ x ≤ m) (hy : -m ≤ y ∧ y ≤ m) : (-(3 * m + 4) ≤ (turnV 1536 3045 x y).1 ∧ (turnV 1536 3045 x y).1 ≤ 3 * m + 4) ∧ (-(3 * m + 4) ≤ (turnV 1536 3045 x y).2 ∧ (turnV 1536 3045 x y).2 ≤ 3 * m + 4) := by
  obtain ⟨r1, r2, r3, e1, e2, h1, h2, h3⟩ := turn_eq (p := 1536) (u := 3045) (by omega) (by omega) hm hx hy
  rw [e1, e2]
  have f1 : 16384 * r1 ≤ 1536 * y + 8192 ∧ 1536 * y + 8192 < 16384 * r1 + 16384 := by omega
  have f2 : 16384 * r2 ≤ 3045 * (x + r1) + 8192 ∧ 3045 * (x + r1) + 8192 < 16384 * r2 + 16384 := by omega
  have f3 : 16384 * r3 ≤ 1536 * (y - r2) + 8192 ∧ 1536 * (y - r2) + 8192 < 16384 * r3 + 16384 := by omega
  clear h1 h2 h3 e1 e2
  obtain ⟨hm0, hm1⟩ := hm
  refine ⟨⟨?_, ?_⟩, ?_, ?_⟩ <;> omega
theorem bd_2 {m x y : Int} (hm : 0 ≤ m ∧ m ≤ 549755813888) (hx : -m ≤ x ∧ x ≤ m) (hy : -m ≤ y ∧ y ≤ m) : (-(3 * m + 4) ≤ (turnV 2560 4998 x y).1 ∧ (turnV 2560 4998 x y).1 ≤ 3 * m + 4) ∧ (-(3 * m + 4) ≤ (turnV 2560 4998 x y).2 ∧ (turnV 2560 4998 x y).2 ≤ 3 * m + 4) := by
  obtain ⟨r1, r2, r3, e1, e2, h1, h2, h3⟩ := turn_eq (p := 2560) (u := 4998) (by omega) (by omega) hm hx hy
  rw [e1, e2]
  have f1 : 16384 * r1 ≤ 2560 * y + 8192 ∧ 2560 * y + 8192 < 16384 * r1 + 16384 := by omega
  have f2 : 16384 * r2 ≤ 4998 * (x + r1) + 8192 ∧ 4998 * (x + r1) + 8192 < 16384 * r2 + 16384 := by omega
  have f3 : 16384 * r3 ≤ 2560 * (y - r2) + 8192 ∧ 2560 * (y - r2) + 8192 < 16384 * r3 + 16384 := by omega
  clear h1 h2 h3 e1 e2
  obtain ⟨hm0, hm1⟩ := hm
  refine ⟨⟨?_, ?_⟩, ?_, ?_⟩ <;> omega
theorem bd_3 {m x y : Int} (hm : 0 ≤ m ∧ m ≤ 549755813888) (hx : -m ≤ x ∧ x ≤ m) (hy : -m ≤ y ∧ y ≤ m) : (-(3 * m + 4) ≤ (turnV 3584 6841 x y).1 ∧ (turnV 3584 6841 x y).1 ≤ 3 * m + 4) ∧ (-(3 * m + 4) ≤ (turnV 3584 6841 x y).2 ∧ (turnV 3584 6841 x y).2 ≤ 3 * m + 4) := by
  obtain ⟨r1, r2, r3, e1, e2, h1, h2, h3⟩ := turn_eq (p := 3584) (u := 6841) (by omega) (by omega) hm hx hy
  rw [e1, e2]
  have f1 : 16384 * r1 ≤ 3584 * y + 8192 ∧ 3584 * y + 8192 < 16384 * r1 + 16384 := by omega
  have f2 : 16384 * r2 ≤ 6841 * (x + r1) + 8192 ∧ 6841 * (x + r1) + 8192 < 16384 * r2 + 16384 := by omega
  have f3 : 16384 * r3 ≤ 3584 * (y - r2) + 8192 ∧ 3584 * (y - r2) + 8192 < 16384 * r3 + 16384 := by omega
  clear h1 h2 h3 e1 e2
  obtain ⟨hm0, hm1⟩ := hm
  refine ⟨⟨?_, ?_⟩, ?_, ?_⟩ <;> omega
theorem bd_4 {m x y : Int} (hm : 0 ≤ m ∧ m ≤ 549755813888) (hx : -m ≤ x ∧ x ≤ m) (hy : -m ≤ y ∧ y ≤ m) : (-(3 * m + 4) ≤ (turnV 4608 8540 x y).1 ∧ (turnV 4608 8540 x y).1 ≤ 3 * m + 4) ∧ (-(3 * m + 4) ≤ (turnV 4608 8540 x y).2 ∧ (turnV 4608 8540 x y).2 ≤ 3 * m + 4) := by
  obtain ⟨r1, r2, r3, e1, e2, h1, h2, h3⟩ := turn_eq (p := 4608) (u := 8540) (by omega) (by omega) hm hx hy
  rw [e1, e2]
  have f1 : 16384 * r1 ≤ 4608 * y + 8192 ∧ 4608 * y + 8192 < 16384 * r1 + 16384 := by omega
  have f2 : 16384 * r2 ≤ 8540 * (x + r1) + 8192 ∧ 8540 * (x + r1) + 8192 < 16384 * r2 + 16384 := by omega
  have f3 : 16384 * r3 ≤ 4608 * (y - r2) + 8192 ∧ 4608 * (y - r2) + 8192 < 16384 * r3 + 16384 := by omega
  clear h1 h2 h3 e1 e2
  obtain ⟨hm0, hm1⟩ := hm
  refine ⟨⟨?_, ?_⟩, ?_, ?_⟩ <;> omega
theorem bd_5 {m x y : Int} (hm : 0 ≤ m ∧ m ≤ 549755813888) (hx : -m ≤ x ∧ x ≤ m) (hy : -m ≤ y ∧ y ≤ m) : (-(3 * m + 4) ≤ (turnV 5632 10074 x y).1 ∧ (turnV 5632 10074 x y).1 ≤ 3 * m + 4) ∧ (-(3 * m + 4) ≤ (turnV 5632 10074 x y).2 ∧ (turnV 5632 10074 x y).2 ≤ 3 * m + 4) := by
  obtain ⟨r1, r2, r3, e1, e2, h1, h2, h3⟩ := turn_eq (p := 5632) (u := 10074) (by omega) (by omega) hm hx hy
  rw [e1, e2]
  have f1 : 16384 * r1 ≤ 5632 * y + 8192 ∧ 5632 * y + 8192 < 16384 * r1 + 16384 := by omega
  have f2 : 16384 * r2 ≤ 10074 * (x + r1) + 8192 ∧ 10074 * (x + r1) + 8192 < 16384 * r2 + 16384 := by omega
  have f3 : 16384 * r3 ≤ 5632 * (y - r2) + 8192 ∧ 5632 * (y - r2) + 8192 < 16384 * r3 + 16384 := by omega
  clear h1 h2 h3 e1 e2
  obtain ⟨hm0, hm1⟩ := hm
  refine ⟨⟨?_, ?_⟩, ?_, ?_⟩ <;> omega
theorem bd_6 {m x y : Int} (hm : 0 ≤ m ∧ m ≤ 549755813888) (hx : -m ≤ x ∧ x ≤ m) (hy : -m ≤ y ∧ y ≤ m) : (-(3 * m + 4) ≤ (turnV 6656 11426 x y).1 ∧ (turnV 6656 11426 x y).1 ≤ 3 * m + 4) ∧ (-(3 * m + 4) ≤ (turnV 6656 11426 x y).2 ∧ (turnV 6656 11426 x y).2 ≤ 3 * m + 4) := by
  obtain ⟨r1, r2, r3, e1, e2, h1, h2, h3⟩ := turn_eq (p := 6656) (u := 11426) (by omega) (by omega) hm hx hy
  rw [e1, e2]
  have f1 : 16384 * r1 ≤ 6656 * y + 8192 ∧ 6656 * y + 8192 < 16384 * r1 + 16384 := by omega
  have f2 : 16384 * r2 ≤ 11426 * (x + r1) + 8192 ∧ 11426 * (x + r1) + 8192 < 16384 * r2 + 16384 := by omega
  have f3 : 16384 * r3 ≤ 6656 * (y - r2) + 8192 ∧ 6656 * (y - r2) + 8192 < 16384 * r3 + 16384 := by omega
  clear h1 h2 h3 e1 e2
  obtain ⟨hm0, hm1⟩ := hm
  refine ⟨⟨?_, ?_⟩, ?_, ?_⟩ <;> omega
theorem bd_7 {m x y : Int} (hm : 0 ≤ m ∧ m ≤ 549755813888) (hx : -m ≤ x ∧ x ≤ m) (hy : -m ≤ y ∧ y ≤ m) : (-(3 * m + 4) ≤ (turnV 7680 12593 x y).1 ∧ (turnV 7680 12593 x y).1 ≤ 3 * m + 4) ∧ (-(3 * m + 4) ≤ (turnV 7680 12593 x y).2 ∧ (turnV 7680 12593 x y).2 ≤ 3 * m + 4) := by
  obtain ⟨r1, r2, r3, e1, e2, h1, h2, h3⟩ := turn_eq (p := 7680) (u := 12593) (by omega) (by omega) hm hx hy
  rw [e1, e2]
  have f1 : 16384 * r1 ≤ 7680 * y + 8192 ∧ 7680 * y + 8192 < 16384 * r1 + 16384 := by omega
  have f2 : 16384 * r2 ≤ 12593 * (x + r1) + 8192 ∧ 12593 * (x + r1) + 8192 < 16384 * r2 + 16384 := by omega
  have f3 : 16384 * r3 ≤ 7680 * (y - r2) + 8192 ∧ 7680 * (y - r2) + 8192 < 16384 * r3 + 16384 := by omega
  clear h1 h2 h3 e1 e2
  obtain ⟨hm0, hm1⟩ := hm
  refine ⟨⟨?_, ?_⟩, ?_, ?_⟩ <;> omega
theorem turn_bd (k : Nat) (hk : k < 8) {m x y : Int} (hm : 0 ≤ m ∧ m ≤ 549755813888) (hx : -m ≤ x ∧ x ≤ m) (hy : -m ≤ y ∧ y ≤ m) : (-(3 * m + 4) ≤ (turnV (TS.getD (2 * k) 0) (TS.getD (2 * k + 1) 0) x y).1 ∧ (turnV (TS.getD (2 * k) 0) (TS.getD (2 * k + 1) 0) x y).1 ≤ 3 * m + 4) ∧ (-(3 * m + 4) ≤ (turnV (TS.getD (2 * k) 0) (TS.getD (2 * k + 1) 0) x y).2 ∧ (turnV (TS.getD (2 * k) 0) (TS.getD (2 * k + 1) 0) x y).2 ≤ 3 * m + 4) := by
  match k, hk with
  | 0, _ => exact bd_0 hm hx hy
  | 1, _ => exact bd_1 hm hx hy
  | 2, _ => exact bd_2 hm hx hy
  | 3, _ => exact bd_3 hm hx hy
  | 4, _ => exact bd_4 hm hx hy
  | 5, _ => exact bd_5 hm hx hy
  | 6, _ => exact bd_6 hm hx hy
  | 7, _ => exact bd_7 hm hx hy
  | k + 8, h => exact absurd h (by omega)
def base (r j : Nat) : Nat := if isP r j = true then j else j - 2 ^ r
def Bd (m : Int) (b : List Int) : Prop := ∀ j, j < 16 → -m ≤ b.getD j 0 ∧ b.getD j 0 ≤ m
def Inv (m : Int) (r i : Nat) (b : List Int) : Prop := ∀ j, j < 16 → if base r j < i then -(3 * m + 4) ≤ b.getD j 0 ∧ b.getD j 0 ≤ 3 * m + 4 else -m ≤ b.getD j 0 ∧ b.getD j 0 ≤ m
theorem base_facts : ∀ r : Fin 4, ∀ i : Fin 16, (isP r.1 i.1 = true → base r.1 i.1 = i.1 ∧ base r.1 (i.1 + 2 ^ r.1) = i.1 ∧ i.1 + 2 ^ r.1 < 16) ∧ base r.1 i.1 < 16 ∧ ∀ j : Fin 16, base r.1 j.1 = i.1 → isP r.1 i.1 = true ∧ (j.1 = i.1 ∨ j.1 = i.1 + 2 ^ r.1) := by decide +kernel
theorem inv_step {m : Int} (hm : 0 ≤ m ∧ m ≤ 549755813888) {r i : Nat} (hr : r < 4) (hi : i < 16) {b : List Int} (hb : b.length = 16) (h : Inv m r i b) : Inv m r (i + 1) (stepV r b i) := by
  obtain ⟨f1, _, f3⟩ := base_facts ⟨r, hr⟩ ⟨i, hi⟩
  simp only at f1 f3
  intro j hj
  have hj0 := h j hj
  have g3 := f3 ⟨j, hj⟩
  simp only at g3
  unfold stepV
  by_cases hp : isP r i = true
  · obtain ⟨k1, k2, k3⟩ := f1 hp
    rw [if_pos hp]
    have hx := h i hi
    rw [k1, if_neg (by omega)] at hx
    have hy := h (i + 2 ^ r) k3
    rw [k2, if_neg (by omega)] at hy
    have ht := turn_bd (tix r i) (Nat.mod_lt _ (by omega)) hm hx hy
    rw [atV_get turnV TS (by omega)]
    by_cases j1 : j = i + 2 ^ r
    · rw [if_pos j1, j1, k2, if_pos (by omega)]
      exact ht.2
    · rw [if_neg j1]
      by_cases j2 : j = i
      · rw [if_pos j2, j2, k1, if_pos (by omega)]
        exact ht.1
      · rw [if_neg j2]
        have hne : base r j ≠ i := fun e => by
          rcases (g3 e).2 with e | e
          · exact j2 e
          · exact j1 e
        by_cases hlt : base r j < i
        · rw [if_pos hlt] at hj0
          rw [if_pos (by omega)]
          exact hj0
        · rw [if_neg hlt] at hj0
          rw [if_neg (by omega)]
          exact hj0
  · rw [if_neg hp]
    have hne : base r j ≠ i := fun e => hp (g3 e).1
    by_cases hlt : base r j < i
    · rw [if_pos hlt] at hj0
      rw [if_pos (by omega)]
      exact hj0
    · rw [if_neg hlt] at hj0
      rw [if_neg (by omega)]
      exact hj0
theorem round_bd {m : Int} (hm : 0 ≤ m ∧ m ≤ 549755813888) {r : Nat} (hr : r < 4) {b : List Int} (hb : b.length = 16) (h : Bd m b) : Bd (3 * m + 4) (roundS b r) := by
  have key : ∀ k, k ≤ 16 → Inv m r k ((List.range k).foldl (stepV r) b) := by
    intro k
    induction k with
    | zero =>
      intro _ j hj
      rw [if_neg (by omega)]
      exact h j hj
    | succ k ih =>
      intro hk
      rw [List.range_succ, List.foldl_append]
      exact inv_step hm hr (by omega) ((foldl_len (stepV_len r) _ b).trans hb) (ih (by omega))
  intro j hj
  have h16 := key 16 (Nat.le_refl 16) j hj
  rw [if_pos (base_facts ⟨r, hr⟩ ⟨j, hj⟩).2.1] at h16
  exact h16
theorem rounds_bd {m : Int} (hm : 0 ≤ m ∧ m ≤ 4294967296) {b : List Int} (hb : b.length = 16) (h : Bd m b) : Bd (81 * m + 160) (roundsV turnV TS rsF b) := by
  have e : roundsV turnV TS rsF b = roundS (roundS (roundS (roundS b 0) 1) 2) 3 := by
    simp only [List.foldl_cons, List.foldl_nil, roundsV, rsF, roundS_eq]
  rw [e]
  have h1 := round_bd (r := 0) (by omega) (by omega) hb h
  have h2 := round_bd (r := 1) (by omega) (by omega) ((roundS_len _ _).trans hb) h1
  have h3 := round_bd (r := 2) (by omega) (by omega) ((roundS_len _ _).trans ((roundS_len _ _).trans hb)) h2
  have h4 := round_bd (r := 3) (by omega) (by omega) ((roundS_len _ _).trans ((roundS_len _ _).trans ((roundS_len _ _).trans hb))) h3
  rw [show 3 * (3 * (3 * (3 * m + 4) + 4) + 4) + 4 = 81 * m + 160 by omega] at h4
  exact h4
def mstep (m x : Int) : Int := if m < x then (if x < -x then -x else x) else if m < -x then -x else m
def mostV (b : List Int) (k : Nat) : Int := (List.range k).foldl (fun m k => mstep m (b.getD k 0)) 0
theorem mostV_succ (b : List Int) (k : Nat) : mostV b (k + 1) = mstep (mostV b k) (b.getD k 0) := by
  unfold mostV
  rw [List.range_succ, List.foldl_append]
  rfl
theorem mostV_ok {b : List Int} (h : ∀ j, j < 16 → -4294967296 ≤ b.getD j 0 ∧ b.getD j 0 ≤ 4294967296) : ∀ k, k ≤ 16 → (0 ≤ mostV b k ∧ mostV b k ≤ 4294967296) ∧ ∀ j, j < k → -(mostV b k) ≤ b.getD j 0 ∧ b.getD j 0 ≤ mostV b k
  | 0, _ => ⟨by show (0 : Int) ≤ 0 ∧ (0 : Int) ≤ _; omega, fun j hj => absurd hj (by omega)⟩
  | k + 1, hk => by
    obtain ⟨h1, h2⟩ := mostV_ok h k (by omega)
    have hx := h k (by omega)
    rw [mostV_succ]
    generalize mostV b k = m at *
    unfold mstep
    refine ⟨by repeat' split <;> omega, fun j hj => ?_⟩
    by_cases hjk : j = k
    · rw [hjk]
      generalize b.getD k 0 = x at *
      repeat' split
      all_goals omega
    · have := h2 j (by omega)
      generalize b.getD j 0 = z at *
      generalize b.getD k 0 = x at *
      repeat' split
      all_goals omega
theorem most_loop {b : List Int} (hb : b.length = 16) (h : ∀ j, j < 16 → -4294967296 ≤ b.getD j 0 ∧ b.getD j 0 ≤ 4294967296) : L5_0 (0, [.i 0, .i 0, .l b]) = some (0, [.i (mostV b 16), .l b]) := by
  refine loop1_run (fun k => [.i (mostV b k), .i (k : Int), .l b]) 16 (fun k hk => ?_) ?_ (by omega)
  · have hx := get_some (l := b) (i := k) (by omega)
    have h1 : (k : Int) < 16 := by omega
    have h0 : (0 : Int) ≤ k ∧ (k : Int) < 16 := by omega
    have w2 : IntKind.i64.wrap ((k : Int) + 1) = ((k + 1 : Nat) : Int) := by rw [wrap64 (by omega) (by omega)]; rfl
    have hbd := h k hk
    simp only [mostV_succ]
    generalize mostV b k = m
    generalize b.getD k 0 = x at hx hbd ⊢
    have w3 : IntKind.i64.wrap (0 - x) = -x := by rw [wrap64 (by omega) (by omega)]; omega
    unfold mstep
    simp -implicitDefEqProofs only [f5_0, f5_0_0, asI_i, asL_l, asE_nil, Bool.cond_decide, if_pos h1, if_pos h0, Int.toNat_natCast, hx, optK_some, w2, w3]
    repeat' split
    all_goals first | rfl | (exfalso; omega)
  · generalize mostV b 16 = x
    kernel_rfl
theorem bound_ok {m : Int} (hm : 0 ≤ m ∧ m ≤ 4294967296) : g11 (0, [.i m]) = some (0, [.i (81 * m + 160)]) := by
  have st : ∀ (k : Nat) (x : Int), k < 4 → 0 ≤ x ∧ x ≤ 549755813888 → f11_0 (0, [.i x, .i (k : Int)]) = some (0, [.i (3 * x + 4), .i ((k + 1 : Nat) : Int)]) := by
    intro k x hk hx
    have h1 : (k : Int) < 4 := by omega
    have w2 : IntKind.i64.wrap ((k : Int) + 1) = ((k + 1 : Nat) : Int) := by rw [wrap64 (by omega) (by omega)]; rfl
    have w3 : IntKind.i64.wrap (IntKind.i64.wrap (3 * x) + 4) = 3 * x + 4 := by rw [wrap64 (x := 3 * x) (by omega) (by omega), wrap64 (by omega) (by omega)]
    simp -implicitDefEqProofs only [f11_0, f11_0_0, asI_i, asE_nil, Bool.cond_decide, if_pos h1, w2, w3]
  have hl : L11_0 (0, [.i m, .i 0]) = some (0, [.i (81 * m + 160)]) := by
    have e : (81 * m + 160 : Int) = (fun k : Nat => match k with | 0 => m | 1 => 3 * m + 4 | 2 => 3 * (3 * m + 4) + 4 | 3 => 3 * (3 * (3 * m + 4) + 4) + 4 | _ => 3 * (3 * (3 * (3 * m + 4) + 4) + 4) + 4 : Nat → Int) 4 := by simp only; omega
    rw [e]
    refine loop1_run (fun k => [.i ((fun k : Nat => match k with | 0 => m | 1 => 3 * m + 4 | 2 => 3 * (3 * m + 4) + 4 | 3 => 3 * (3 * (3 * m + 4) + 4) + 4 | _ => 3 * (3 * (3 * (3 * m + 4) + 4) + 4) + 4 : Nat → Int) k), .i (k : Int)]) 4 (fun k hk => ?_) ?_ (by omega)
    · match k, hk with
      | 0, _ => exact st 0 _ (by omega) (by simp only; omega)
      | 1, _ => exact st 1 _ (by omega) (by simp only; omega)
      | 2, _ => exact st 2 _ (by omega) (by simp only; omega)
      | 3, _ => exact st 3 _ (by omega) (by simp only; omega)
      | k + 4, h => exact absurd h (by omega)
    · generalize 3 * (3 * (3 * (3 * m + 4) + 4) + 4) + 4 = x
      kernel_rfl
  simp -implicitDefEqProofs only [g11, g11_0, asI_i, asE_nil, hl, altK_0]
theorem check_loop {b s : List Int} {B : Int} (hs : s.length = 16) (hB : 0 ≤ B ∧ B ≤ 549755813888) (h : Bd B s) : L5_1 (0, [.i B, .i 0, .l b, .l s]) = some (0, [.l b, .l s]) := by
  refine loop1_run (fun k => [.i B, .i (k : Int), .l b, .l s]) 16 (fun k hk => ?_) (by kernel_rfl) (by omega)
  have hx := get_some (l := s) (i := k) (by omega)
  have h1 : (k : Int) < 16 := by omega
  have h0 : (0 : Int) ≤ k ∧ (k : Int) < 16 := by omega
  have w2 : IntKind.i64.wrap ((k : Int) + 1) = ((k + 1 : Nat) : Int) := by rw [wrap64 (by omega) (by omega)]; rfl
  have hbd := h k hk
  generalize s.getD k 0 = x at hx hbd
  have w3 : IntKind.i64.wrap (0 - B) = -B := by rw [wrap64 (by omega) (by omega)]; omega
  simp -implicitDefEqProofs only [f5_1, f5_1_0, asI_i, asL_l, asE_nil, Bool.cond_decide, if_pos h1, if_pos h0, Int.toNat_natCast, hx, optK_some, w2, w3, if_neg (show ¬ B < x by omega), if_neg (show ¬ x < -B by omega)]
theorem netBounds_ok (b : List Int) (hb : b.length = 16) : g5 (0, [.l b]) = some (0, [.b true]) := by
  have hb16 : 16 ≤ b.length := by omega
  cases hn : nearB b
  · simp -implicitDefEqProofs only [g5, g5_0, asL_l, asB_b, asE_nil, if_pos hb16, take16 hb, near_ok b hb, hn, altK_0, Bool.not_true, Bool.not_false, cond_true, cond_false, awakeL_ok]
  · have hnear : ∀ j, j < 16 → -4294967296 ≤ b.getD j 0 ∧ b.getD j 0 ≤ 4294967296 := fun j hj => by
      have := List.all_eq_true.1 hn j (List.mem_range.2 hj)
      exact of_decide_eq_true this
    obtain ⟨hm, hmb⟩ := mostV_ok hnear 16 (Nat.le_refl 16)
    have hl : (roundsV turnV TS rsF b).length = 16 := (roundsV_len _ _ _ b).trans hb
    have e9 := g9_ok TS b rfl hb
    have hbd := rounds_bd hm hb hmb
    have ml := most_loop hb hnear
    generalize mostV b 16 = m at *
    generalize roundsV turnV TS rsF b = s at hl e9 hbd
    have w1 : IntKind.i64.wrap (IntKind.i64.wrap (81 * m) + 160) = 81 * m + 160 := by rw [wrap64 (x := 81 * m) (by omega) (by omega), wrap64 (by omega) (by omega)]
    have hc := check_loop (b := b) hl (by omega) hbd
    have hne : decide (81 * m + 160 ≠ 81 * m + 160) = false := by simp
    have hd : List.drop (0 + 16) ([0, 0, 0, 0, 0, 0, 0, 0, 0, 0, 0, 0, 0, 0, 0, 0] : List Int) = [] := rfl
    simp -implicitDefEqProofs only [g5, g5_0, asL_l, asB_b, asI_i, asE_nil, if_pos hb16, take16 hb, near_ok b hb, hn, altK_0, Bool.not_true, Bool.not_false, cond_true, cond_false, awakeL_ok, ml, bound_ok hm, w1, hne, new_ok, e9, hl, hd, List.append_nil, hc, if_true, Nat.zero_add, Nat.le_refl]
theorem ev_5 (l : List Int) (hl : l.length = 16) : evF tab 21 5 [.ints .i64 l] [] = some (.bool true, [], []) := (ok5 0).ret (i := 0) (ls := [.l l]) (j := 0) (r := [.b true]) (netBounds_ok l hl) rfl rfl rfl rfl
end Go.Proofs.Ytbamcklflcikoaa