/-
  BitsReads: the law's rounds and the law, of any bytes and any script. Conditions: none.
-/
import Derived.Test.YtkahlinndcnjiaaRdV
namespace Go.Proofs.Ytkahlinndcnjiaa
open Go Go.Sx R
set_option maxRecDepth 100000
set_option linter.unusedVariables false
attribute [local simp] asI_i asB_b asL_l asN_n asS_s asE_nil altK_none altK_0 altK_1 altK_2 altK_3 optK_some optK_none Bool.cond_decide Bool.cond_not Int.toNat_natCast
set_option linter.unusedSimpArgs false
theorem altK_R7 {α : Type} (r : List Leaf) (k0 k1 k2 k3 k4 k5 k6 k7 : List Leaf → α) (ks : List (List Leaf → α)) (z : α) : altK (some (7, r)) (k0 :: k1 :: k2 :: k3 :: k4 :: k5 :: k6 :: k7 :: ks) z = k7 r := rfl
theorem altK_R8 {α : Type} (r : List Leaf) (k0 k1 k2 k3 k4 k5 k6 k7 k8 : List Leaf → α) (ks : List (List Leaf → α)) (z : α) : altK (some (8, r)) (k0 :: k1 :: k2 :: k3 :: k4 :: k5 :: k6 :: k7 :: k8 :: ks) z = k8 r := rfl
theorem altK_R9 {α : Type} (r : List Leaf) (k0 k1 k2 k3 k4 k5 k6 k7 k8 k9 : List Leaf → α) (ks : List (List Leaf → α)) (z : α) : altK (some (9, r)) (k0 :: k1 :: k2 :: k3 :: k4 :: k5 :: k6 :: k7 :: k8 :: k9 :: ks) z = k9 r := rfl
theorem altK_R10 {α : Type} (r : List Leaf) (k0 k1 k2 k3 k4 k5 k6 k7 k8 k9 k10 : List Leaf → α) (ks : List (List Leaf → α)) (z : α) : altK (some (10, r)) (k0 :: k1 :: k2 :: k3 :: k4 :: k5 :: k6 :: k7 :: k8 :: k9 :: k10 :: ks) z = k10 r := rfl
theorem altK_R11 {α : Type} (r : List Leaf) (k0 k1 k2 k3 k4 k5 k6 k7 k8 k9 k10 k11 : List Leaf → α) (ks : List (List Leaf → α)) (z : α) : altK (some (11, r)) (k0 :: k1 :: k2 :: k3 :: k4 :: k5 :: k6 :: k7 :: k8 :: k9 :: k10 :: k11 :: ks) z = k11 r := rfl
theorem altK_R12 {α : Type} (r : List Leaf) (k0 k1 k2 k3 k4 k5 k6 k7 k8 k9 k10 k11 k12 : List Leaf → α) (ks : List (List Leaf → α)) (z : α) : altK (some (12, r)) (k0 :: k1 :: k2 :: k3 :: k4 :: k5 :: k6 :: k7 :: k8 :: k9 :: k10 :: k11 :: k12 :: ks) z = k12 r := rfl
theorem altK_R13 {α : Type} (r : List Leaf) (k0 k1 k2 k3 k4 k5 k6 k7 k8 k9 k10 k11 k12 k13 : List Leaf → α) (ks : List (List Leaf → α)) (z : α) : altK (some (13, r)) (k0 :: k1 :: k2 :: k3 :: k4 :: k5 :: k6 :: k7 :: k8 :: k9 :: k10 :: k11 :: k12 :: k13 :: ks) z = k13 r := rfl
theorem altK_R14 {α : Type} (r : List Leaf) (k0 k1 k2 k3 k4 k5 k6 k7 k8 k9 k10 k11 k12 k13 k14 : List Leaf → α) (ks : List (List Leaf → α)) (z : α) : altK (some (14, r)) (k0 :: k1 :: k2 :: k3 :: k4 :: k5 :: k6 :: k7 :: k8 :: k9 :: k10 :: k11 :: k12 :: k13 :: k14 :: ks) z = k14 r := rfl
theorem eK_zero {e k rem : Int} (h : eK e k rem = 0) : e = 0 := by
  apply Classical.not_not.1
  intro q
  rw [eK_ne q] at h
  exact q h
theorem eK_zero' {e k : Int} (h : eK e k 0 = 0) : ¬ 0 < k := by
  obtain rfl := eK_zero h
  intro q
  unfold eK at h
  (repeat' split at h) <;> omega
theorem eK_all {k rem : Int} (h : eK 0 k rem = 0) : 0 ≤ k ∧ k ≤ 57 ∧ k ≤ rem := by
  unfold eK at h
  rw [if_neg (by omega)] at h
  (repeat' split at h) <;> omega
theorem nlf_V (B : List Int) (n a : Nat) (hB : ∀ x ∈ B, 0 ≤ x ∧ x ≤ 255) (hl : n ≤ B.length) (hn : n ≤ 1000) (ha : a ≤ 8 * n) (e : Int) (he : e = 0 → a = 8 * n) : g22 (0, [.n n, .i a, .i e, .l B]) = some (0, [.i 0, .n n, .i a, .i e, .l B]) := by
  by_cases h0 : e ≠ 0
  · exact left_e B n a e h0
  · obtain rfl : e = 0 := Classical.not_not.1 h0
    have h := left_0 B n a ha hn
    rw [he rfl, Nat.sub_self] at h
    rw [he rfl]
    exact h
theorem ngt_V (B : List Int) (n a : Nat) (hB : ∀ x ∈ B, 0 ≤ x ∧ x ≤ 255) (hl : n ≤ B.length) (hn : n ≤ 1000) (ha : a ≤ 8 * n) (k : Int) (e : Int) (he : e = 0 → a = 8 * n) : g21 (0, [.i k, .n n, .i a, .i e, .l B]) = some (0, [.i 0, .n n, .i a, .i (eK e k 0), .l B]) := by
  by_cases h : eK e k 0 ≠ 0
  · by_cases h0 : e ≠ 0
    · have := get_bad B n a e k ha hn (by rw [eK_ne h0]; exact h0)
      rw [eK_ne h0] at this ⊢
      exact this
    · obtain rfl : e = 0 := Classical.not_not.1 h0
      have q := he rfl
      have := get_bad B n a 0 k ha hn (by rw [q, Nat.sub_self]; exact h)
      rw [q, Nat.sub_self] at this
      rw [q]
      exact this
  · have h' := Classical.not_not.1 h
    obtain rfl := eK_zero h'
    have h2 := eK_all h'
    obtain rfl : k = 0 := by omega
    rw [h']
    exact get_ok B n hB hl hn a 0 (by omega) (by have := he rfl; omega)
theorem nsd_V (B : List Int) (n a : Nat) (hB : ∀ x ∈ B, 0 ≤ x ∧ x ≤ 255) (hl : n ≤ B.length) (hn : n ≤ 1000) (ha : a ≤ 8 * n) (k : Int) (e : Int) (he : e = 0 → a = 8 * n) : g20 (0, [.i k, .n n, .i a, .i e, .l B]) = some (0, [.i 0, .n n, .i a, .i (eK e k 0), .l B]) := by
  have h := ngt_V B n a hB hl hn ha k e he 
  by_cases h0 : eK e k 0 ≠ 0
  · simp -implicitDefEqProofs only [g20, g20_0, asI_i, asN_n, asL_l, asB_b, asE_nil, Bool.cond_decide, Bool.cond_not, h, altK_0, if_pos h0]
  · have h' := Classical.not_not.1 h0
    obtain rfl := eK_zero h'
    have h2 := eK_all h'
    obtain rfl : k = 0 := by omega
    simp -implicitDefEqProofs only [g20, g20_0, asI_i, asN_n, asL_l, asB_b, asE_nil, Bool.cond_decide, Bool.cond_not, h, altK_0, if_neg h0, if_true]
theorem ned_V (B : List Int) (n a : Nat) (hB : ∀ x ∈ B, 0 ≤ x ∧ x ≤ 255) (hl : n ≤ B.length) (hn : n ≤ 1000) (ha : a ≤ 8 * n) (e : Int) (he : e = 0 → a = 8 * n) : g23 (0, [.n n, .i a, .i e, .l B]) = some (0, [.i e, .n n, .i a, .i e, .l B]) := by
  by_cases h0 : e ≠ 0
  · exact end_e B n a e h0
  · obtain rfl : e = 0 := Classical.not_not.1 h0
    obtain rfl := he rfl
    obtain ⟨a', h1, h2, h3⟩ := end_0 B n hB hl hn (8 * n) (Nat.le_refl _)
    rw [Nat.sub_self] at h2 h3
    obtain rfl := h2 rfl
    exact h3
theorem nlf_N (e : Int) : g22 (1, [.i 0, .i e]) = some (1, [.i 0, .i 0, .i e]) := by
  by_cases h0 : e ≠ 0
  · simp -implicitDefEqProofs only [g22, g22_1, asI_i, asN_n, asL_l, asB_b, asE_nil, Bool.cond_decide, Bool.cond_not, if_pos h0]
  · simp -implicitDefEqProofs only [g22, g22_1, asI_i, asN_n, asL_l, asB_b, asE_nil, Bool.cond_decide, Bool.cond_not, if_neg h0, show IntKind.i64.wrap (0 - 0) = 0 from rfl]
theorem ner_N (e : Int) : g29 (1, [.i 0, .i e]) = some (1, [.i e, .i 0, .i e]) := by
  simp -implicitDefEqProofs only [g29, g29_1, asI_i, asN_n, asL_l, asB_b, asE_nil, Bool.cond_decide, Bool.cond_not]
theorem nfl_N (k e : Int) : g27 (1, [.i k, .i 0, .i e]) = some (1, [.i 0, .i (if e = 0 then k else e)]) := by
  by_cases h : e = 0
  · simp -implicitDefEqProofs only [g27, g27_1, asI_i, asN_n, asL_l, asB_b, asE_nil, Bool.cond_decide, Bool.cond_not, if_pos h]
  · simp -implicitDefEqProofs only [g27, g27_1, asI_i, asN_n, asL_l, asB_b, asE_nil, Bool.cond_decide, Bool.cond_not, if_neg h]
theorem ngt_N (k : Int) (e : Int) : g21 (1, [.i k, .i 0, .i e]) = some (1, [.i 0, .i 0, .i (eK e k 0)]) := by
  by_cases h0 : e ≠ 0
  · rw [eK_ne h0]
    simp -implicitDefEqProofs only [g21, g21_1, asI_i, asN_n, asL_l, asB_b, asE_nil, Bool.cond_decide, Bool.cond_not, if_pos h0]
  · obtain rfl : e = 0 := Classical.not_not.1 h0
    by_cases h1 : k < 0
    · rw [eK_neg h1]
      simp -implicitDefEqProofs only [g21, g21_1, asI_i, asN_n, asL_l, asB_b, asE_nil, Bool.cond_decide, Bool.cond_not, if_neg h0, if_pos h1]
    · by_cases h2 : 57 < k
      · rw [eK_big h2]
        simp -implicitDefEqProofs only [g21, g21_1, asI_i, asN_n, asL_l, asB_b, asE_nil, Bool.cond_decide, Bool.cond_not, if_neg h0, if_neg h1, if_pos h2]
      · by_cases h3 : 0 < k
        · rw [eK_short h1 h2 h3]
          simp -implicitDefEqProofs only [g21, g21_1, asI_i, asN_n, asL_l, asB_b, asE_nil, Bool.cond_decide, Bool.cond_not, if_neg h0, if_neg h1, if_neg h2, nlf_N 0, altK_1, if_pos h3]
        · obtain rfl : k = 0 := by omega
          rw [eK_ok h1 h2 h3]
          have hL : L21_0 (1, [.i 0, .i 0, .i 0, .i 0, .i 0]) = some (1, [.i 0, .i 0, .i 0]) := loopL_last (m := 3) (f := f21_0) (j := 1) (by
            simp -implicitDefEqProofs only [f21_0, f21_0_1, asI_i, asN_n, asL_l, asB_b, asE_nil, Bool.cond_decide, Bool.cond_not, if_neg (Int.lt_irrefl _)])
          simp -implicitDefEqProofs only [g21, g21_1, asI_i, asN_n, asL_l, asB_b, asE_nil, Bool.cond_decide, Bool.cond_not, if_neg h0, if_neg (Int.lt_irrefl _), if_neg h2, nlf_N 0, altK_1, hL]
theorem nsd_N (k : Int) (e : Int) : g20 (1, [.i k, .i 0, .i e]) = some (1, [.i 0, .i 0, .i (eK e k 0)]) := by
  have h := ngt_N k e 
  by_cases h0 : eK e k 0 ≠ 0
  · simp -implicitDefEqProofs only [g20, g20_1, asI_i, asN_n, asL_l, asB_b, asE_nil, Bool.cond_decide, Bool.cond_not, h, altK_1, if_pos h0]
  · have h' := Classical.not_not.1 h0
    obtain rfl := eK_zero h'
    have h2 := eK_all h'
    obtain rfl : k = 0 := by omega
    simp -implicitDefEqProofs only [g20, g20_1, asI_i, asN_n, asL_l, asB_b, asE_nil, Bool.cond_decide, Bool.cond_not, h, altK_1, if_neg h0, if_true]
theorem ned_N (e : Int) : g23 (1, [.i 0, .i e]) = some (1, [.i e, .i 0, .i e]) := by
  have hL : L23_0 (1, [.i 0, .i e]) = some (1, [.i 0, .i e]) := loopL_last (m := 3) (f := f23_0) (j := 1) (by
    simp -implicitDefEqProofs only [f23_0, f23_0_1, asI_i, asN_n, asL_l, asB_b, asE_nil, Bool.cond_decide, Bool.cond_not, nlf_N e, altK_1, if_neg (Int.lt_irrefl _)])
  simp -implicitDefEqProofs only [g23, g23_1, asI_i, asN_n, asL_l, asB_b, asE_nil, Bool.cond_decide, Bool.cond_not, hL, altK_1]
theorem nlf_U (e : Int) : g22 (2, [.n 0, .i 0, .i e]) = some (2, [.i 0, .n 0, .i 0, .i e]) := by
  by_cases h0 : e ≠ 0
  · simp -implicitDefEqProofs only [g22, g22_2, asI_i, asN_n, asL_l, asB_b, asE_nil, Bool.cond_decide, Bool.cond_not, if_pos h0]
  · simp -implicitDefEqProofs only [g22, g22_2, asI_i, asN_n, asL_l, asB_b, asE_nil, Bool.cond_decide, Bool.cond_not, if_neg h0, show IntKind.i64.wrap (IntKind.i64.wrap (8 * ((0 : Nat) : Int)) - 0) = 0 from rfl]
theorem ner_U (e : Int) : g29 (2, [.n 0, .i 0, .i e]) = some (2, [.i e, .n 0, .i 0, .i e]) := by
  simp -implicitDefEqProofs only [g29, g29_2, asI_i, asN_n, asL_l, asB_b, asE_nil, Bool.cond_decide, Bool.cond_not]
theorem nfl_U (k e : Int) : g27 (2, [.i k, .n 0, .i 0, .i e]) = some (2, [.n 0, .i 0, .i (if e = 0 then k else e)]) := by
  by_cases h : e = 0
  · simp -implicitDefEqProofs only [g27, g27_2, asI_i, asN_n, asL_l, asB_b, asE_nil, Bool.cond_decide, Bool.cond_not, if_pos h]
  · simp -implicitDefEqProofs only [g27, g27_2, asI_i, asN_n, asL_l, asB_b, asE_nil, Bool.cond_decide, Bool.cond_not, if_neg h]
theorem ngt_U (k : Int) (e : Int) : g21 (2, [.i k, .n 0, .i 0, .i e]) = some (2, [.i 0, .n 0, .i 0, .i (eK e k 0)]) := by
  by_cases h0 : e ≠ 0
  · rw [eK_ne h0]
    simp -implicitDefEqProofs only [g21, g21_2, asI_i, asN_n, asL_l, asB_b, asE_nil, Bool.cond_decide, Bool.cond_not, if_pos h0]
  · obtain rfl : e = 0 := Classical.not_not.1 h0
    by_cases h1 : k < 0
    · rw [eK_neg h1]
      simp -implicitDefEqProofs only [g21, g21_2, asI_i, asN_n, asL_l, asB_b, asE_nil, Bool.cond_decide, Bool.cond_not, if_neg h0, if_pos h1]
    · by_cases h2 : 57 < k
      · rw [eK_big h2]
        simp -implicitDefEqProofs only [g21, g21_2, asI_i, asN_n, asL_l, asB_b, asE_nil, Bool.cond_decide, Bool.cond_not, if_neg h0, if_neg h1, if_pos h2]
      · by_cases h3 : 0 < k
        · rw [eK_short h1 h2 h3]
          simp -implicitDefEqProofs only [g21, g21_2, asI_i, asN_n, asL_l, asB_b, asE_nil, Bool.cond_decide, Bool.cond_not, if_neg h0, if_neg h1, if_neg h2, nlf_U 0, altK_2, if_pos h3]
        · obtain rfl : k = 0 := by omega
          rw [eK_ok h1 h2 h3]
          have hL : L21_0 (2, [.i 0, .i 0, .i 0, .n 0, .i 0, .i 0]) = some (2, [.i 0, .n 0, .i 0, .i 0]) := loopL_last (m := 3) (f := f21_0) (j := 2) (by
            simp -implicitDefEqProofs only [f21_0, f21_0_2, asI_i, asN_n, asL_l, asB_b, asE_nil, Bool.cond_decide, Bool.cond_not, if_neg (Int.lt_irrefl _)])
          simp -implicitDefEqProofs only [g21, g21_2, asI_i, asN_n, asL_l, asB_b, asE_nil, Bool.cond_decide, Bool.cond_not, if_neg h0, if_neg (Int.lt_irrefl _), if_neg h2, nlf_U 0, altK_2, hL]
theorem nsd_U (k : Int) (e : Int) : g20 (2, [.i k, .n 0, .i 0, .i e]) = some (2, [.i 0, .n 0, .i 0, .i (eK e k 0)]) := by
  have h := ngt_U k e 
  by_cases h0 : eK e k 0 ≠ 0
  · simp -implicitDefEqProofs only [g20, g20_2, asI_i, asN_n, asL_l, asB_b, asE_nil, Bool.cond_decide, Bool.cond_not, h, altK_2, if_pos h0]
  · have h' := Classical.not_not.1 h0
    obtain rfl := eK_zero h'
    have h2 := eK_all h'
    obtain rfl : k = 0 := by omega
    simp -implicitDefEqProofs only [g20, g20_2, asI_i, asN_n, asL_l, asB_b, asE_nil, Bool.cond_decide, Bool.cond_not, h, altK_2, if_neg h0, if_true]
theorem ned_U (e : Int) : g23 (2, [.n 0, .i 0, .i e]) = some (2, [.i e, .n 0, .i 0, .i e]) := by
  have hL : L23_0 (2, [.n 0, .i 0, .i e]) = some (2, [.n 0, .i 0, .i e]) := loopL_last (m := 3) (f := f23_0) (j := 2) (by
    simp -implicitDefEqProofs only [f23_0, f23_0_2, asI_i, asN_n, asL_l, asB_b, asE_nil, Bool.cond_decide, Bool.cond_not, nlf_U e, altK_2, if_neg (Int.lt_irrefl _)])
  simp -implicitDefEqProofs only [g23, g23_2, asI_i, asN_n, asL_l, asB_b, asE_nil, Bool.cond_decide, Bool.cond_not, hL, altK_2]
/-- The error behind a call, where nothing is left. -/
def eN (e kd k : Int) : Int := if kd = 0 then eK e k 0 else if kd = 1 then eK e k 0 else if kd = 2 then (if e = 0 then k else e) else e
theorem eN_zero {e kd k : Int} (h : eN e kd k = 0) : e = 0 := by
  unfold eN at h
  (repeat' split at h) <;> first | exact eK_zero h | assumption
set_option maxHeartbeats 4000000 in
theorem nround_V (B : List Int) (n a : Nat) (hB : ∀ x ∈ B, 0 ≤ x ∧ x ≤ 255) (hl : n ≤ B.length) (hn : n ≤ 1000) (ha : a ≤ 8 * n) (m : Nat) (h : List Int) (j : Nat) (hj : j < m) (h40 : j < 40) (hm : m * 2 ≤ h.length) (e : Int) (he : e = 0 → a = 8 * n) : f7_1 (0, [.n m, .i j, .l B, .l h, .n n, .i a, .i e, .i e]) = some (0, [.n m, .i (j + 1 : Nat), .l B, .l h, .n n, .i a, .i (eN e (h.getD (j * 2) 0) (h.getD (j * 2 + 1) 0)), .i (eN e (h.getD (j * 2) 0) (h.getD (j * 2 + 1) 0))]) := by
  have c0 := cT_0 (h := h) (k := j) (by omega)
  have c1 := cT_1 (h := h) (k := j) (by omega)
  have cl := cT_len (h := h) (k := j) (by omega)
  have hle : j * 2 + 2 ≤ h.length := by omega
  have w2 : IntKind.i64.wrap ((j : Int) + 1) = ((j + 1 : Nat) : Int) := wrap_nat (n := j + 1) (by omega)
  have hne : ∀ x : Int, (x ≠ x) = False := fun x => eq_false (fun h => h rfl)
  have hz := @eN_zero e (h.getD (j * 2) 0) (h.getD (j * 2 + 1) 0)
  generalize h.getD (j * 2) 0 = kd at *
  generalize h.getD (j * 2 + 1) 0 = k at *
  by_cases k0 : kd = 0
  · have e1 : eN e kd k = eK e k 0 := by unfold eN; rw [if_pos k0]
    rw [e1] at hz ⊢
    have hlf := nlf_V B n a hB hl hn ha (eK e k 0) (fun q => he (hz q)) 
    have h1 := ngt_V B n a hB hl hn ha k e he 
    have h2 := nget e k
    generalize eK e k 0 = e' at *
    by_cases z : e' ≠ 0
    · simp -implicitDefEqProofs only [f7_1, f7_1_0, asI_i, asN_n, asL_l, asB_b, asE_nil, Bool.cond_decide, Bool.cond_not, if_pos (show (j : Int) < m by omega), if_pos (show (j : Int) < 40 by omega), if_pos (show (0 : Int) ≤ j ∧ (j : Int) < m by omega), Int.toNat_natCast, if_pos hle, cl, if_true, if_pos (show 0 + 2 ≤ 2 by omega), drop2, List.append_nil, c0, c1, optK_some, altK_0, altK_1, altK_2, altK_3, altK_4, altK_5, altK_6, altK_R7, altK_R8, altK_R9, altK_R10, altK_R11, altK_R12, altK_R13, altK_R14, w2, hne, if_false, if_pos k0, h1, h2, if_pos z, err_ok, hlf]
    · simp -implicitDefEqProofs only [f7_1, f7_1_0, asI_i, asN_n, asL_l, asB_b, asE_nil, Bool.cond_decide, Bool.cond_not, if_pos (show (j : Int) < m by omega), if_pos (show (j : Int) < 40 by omega), if_pos (show (0 : Int) ≤ j ∧ (j : Int) < m by omega), Int.toNat_natCast, if_pos hle, cl, if_true, if_pos (show 0 + 2 ≤ 2 by omega), drop2, List.append_nil, c0, c1, optK_some, altK_0, altK_1, altK_2, altK_3, altK_4, altK_5, altK_6, altK_R7, altK_R8, altK_R9, altK_R10, altK_R11, altK_R12, altK_R13, altK_R14, w2, hne, if_false, if_pos k0, h1, h2, if_neg z, err_ok, hlf]
  by_cases k1 : kd = 1
  · have e1 : eN e kd k = eK e k 0 := by unfold eN; rw [if_neg k0, if_pos k1]
    rw [e1] at hz ⊢
    have hlf := nlf_V B n a hB hl hn ha (eK e k 0) (fun q => he (hz q)) 
    have h1 := nsd_V B n a hB hl hn ha k e he 
    have h2 := nsg e k
    generalize eK e k 0 = e' at *
    by_cases z : e' ≠ 0
    · simp -implicitDefEqProofs only [f7_1, f7_1_0, asI_i, asN_n, asL_l, asB_b, asE_nil, Bool.cond_decide, Bool.cond_not, if_pos (show (j : Int) < m by omega), if_pos (show (j : Int) < 40 by omega), if_pos (show (0 : Int) ≤ j ∧ (j : Int) < m by omega), Int.toNat_natCast, if_pos hle, cl, if_true, if_pos (show 0 + 2 ≤ 2 by omega), drop2, List.append_nil, c0, c1, optK_some, altK_0, altK_1, altK_2, altK_3, altK_4, altK_5, altK_6, altK_R7, altK_R8, altK_R9, altK_R10, altK_R11, altK_R12, altK_R13, altK_R14, w2, hne, if_false, if_neg k0, if_pos k1, h1, h2, if_pos z, err_ok, hlf]
    · simp -implicitDefEqProofs only [f7_1, f7_1_0, asI_i, asN_n, asL_l, asB_b, asE_nil, Bool.cond_decide, Bool.cond_not, if_pos (show (j : Int) < m by omega), if_pos (show (j : Int) < 40 by omega), if_pos (show (0 : Int) ≤ j ∧ (j : Int) < m by omega), Int.toNat_natCast, if_pos hle, cl, if_true, if_pos (show 0 + 2 ≤ 2 by omega), drop2, List.append_nil, c0, c1, optK_some, altK_0, altK_1, altK_2, altK_3, altK_4, altK_5, altK_6, altK_R7, altK_R8, altK_R9, altK_R10, altK_R11, altK_R12, altK_R13, altK_R14, w2, hne, if_false, if_neg k0, if_pos k1, h1, h2, if_neg z, err_ok, hlf]
  by_cases k2 : kd = 2
  · have e1 : eN e kd k = if e = 0 then k else e := by unfold eN; rw [if_neg k0, if_neg k1, if_pos k2]
    rw [e1] at hz ⊢
    have hlf := nlf_V B n a hB hl hn ha (if e = 0 then k else e) (fun q => he (hz q)) 
    have h1 := fail_ok B n k a e
    by_cases q : e = 0
    · rw [if_pos q] at h1 hlf ⊢
      by_cases z : k ≠ 0
      · simp -implicitDefEqProofs only [f7_1, f7_1_0, asI_i, asN_n, asL_l, asB_b, asE_nil, Bool.cond_decide, Bool.cond_not, if_pos (show (j : Int) < m by omega), if_pos (show (j : Int) < 40 by omega), if_pos (show (0 : Int) ≤ j ∧ (j : Int) < m by omega), Int.toNat_natCast, if_pos hle, cl, if_true, if_pos (show 0 + 2 ≤ 2 by omega), drop2, List.append_nil, c0, c1, optK_some, altK_0, altK_1, altK_2, altK_3, altK_4, altK_5, altK_6, altK_R7, altK_R8, altK_R9, altK_R10, altK_R11, altK_R12, altK_R13, altK_R14, w2, hne, if_false, if_neg k0, if_neg k1, if_pos k2, h1, if_pos q, if_pos z, err_ok, hlf]
      · simp -implicitDefEqProofs only [f7_1, f7_1_0, asI_i, asN_n, asL_l, asB_b, asE_nil, Bool.cond_decide, Bool.cond_not, if_pos (show (j : Int) < m by omega), if_pos (show (j : Int) < 40 by omega), if_pos (show (0 : Int) ≤ j ∧ (j : Int) < m by omega), Int.toNat_natCast, if_pos hle, cl, if_true, if_pos (show 0 + 2 ≤ 2 by omega), drop2, List.append_nil, c0, c1, optK_some, altK_0, altK_1, altK_2, altK_3, altK_4, altK_5, altK_6, altK_R7, altK_R8, altK_R9, altK_R10, altK_R11, altK_R12, altK_R13, altK_R14, w2, hne, if_false, if_neg k0, if_neg k1, if_pos k2, h1, if_pos q, if_neg z, err_ok, hlf]
    · rw [if_neg q] at h1 hlf ⊢
      simp -implicitDefEqProofs only [f7_1, f7_1_0, asI_i, asN_n, asL_l, asB_b, asE_nil, Bool.cond_decide, Bool.cond_not, if_pos (show (j : Int) < m by omega), if_pos (show (j : Int) < 40 by omega), if_pos (show (0 : Int) ≤ j ∧ (j : Int) < m by omega), Int.toNat_natCast, if_pos hle, cl, if_true, if_pos (show 0 + 2 ≤ 2 by omega), drop2, List.append_nil, c0, c1, optK_some, altK_0, altK_1, altK_2, altK_3, altK_4, altK_5, altK_6, altK_R7, altK_R8, altK_R9, altK_R10, altK_R11, altK_R12, altK_R13, altK_R14, w2, hne, if_false, if_neg k0, if_neg k1, if_pos k2, h1, if_neg q, if_pos (show e ≠ 0 from q), err_ok, hlf]
  · have e1 : eN e kd k = e := by unfold eN; rw [if_neg k0, if_neg k1, if_neg k2]
    rw [e1] at hz ⊢
    have hlf := nlf_V B n a hB hl hn ha e (fun q => he (hz q)) 
    have h1 := ned_V B n a hB hl hn ha e he 
    have h2 := nend e
    by_cases z : e ≠ 0
    · simp -implicitDefEqProofs only [f7_1, f7_1_0, asI_i, asN_n, asL_l, asB_b, asE_nil, Bool.cond_decide, Bool.cond_not, if_pos (show (j : Int) < m by omega), if_pos (show (j : Int) < 40 by omega), if_pos (show (0 : Int) ≤ j ∧ (j : Int) < m by omega), Int.toNat_natCast, if_pos hle, cl, if_true, if_pos (show 0 + 2 ≤ 2 by omega), drop2, List.append_nil, c0, c1, optK_some, altK_0, altK_1, altK_2, altK_3, altK_4, altK_5, altK_6, altK_R7, altK_R8, altK_R9, altK_R10, altK_R11, altK_R12, altK_R13, altK_R14, w2, hne, if_false, if_neg k0, if_neg k1, if_neg k2, h1, h2, if_pos z, err_ok, hlf]
    · simp -implicitDefEqProofs only [f7_1, f7_1_0, asI_i, asN_n, asL_l, asB_b, asE_nil, Bool.cond_decide, Bool.cond_not, if_pos (show (j : Int) < m by omega), if_pos (show (j : Int) < 40 by omega), if_pos (show (0 : Int) ≤ j ∧ (j : Int) < m by omega), Int.toNat_natCast, if_pos hle, cl, if_true, if_pos (show 0 + 2 ≤ 2 by omega), drop2, List.append_nil, c0, c1, optK_some, altK_0, altK_1, altK_2, altK_3, altK_4, altK_5, altK_6, altK_R7, altK_R8, altK_R9, altK_R10, altK_R11, altK_R12, altK_R13, altK_R14, w2, hne, if_false, if_neg k0, if_neg k1, if_neg k2, h1, h2, if_neg z, err_ok, hlf]
set_option maxHeartbeats 4000000 in
theorem nround_N (m : Nat) (h : List Int) (j : Nat) (hj : j < m) (h40 : j < 40) (hm : m * 2 ≤ h.length) (e : Int) : f7_1 (6, [.n m, .i j, .l h, .i 0, .i e, .i e]) = some (6, [.n m, .i (j + 1 : Nat), .l h, .i 0, .i (eN e (h.getD (j * 2) 0) (h.getD (j * 2 + 1) 0)), .i (eN e (h.getD (j * 2) 0) (h.getD (j * 2 + 1) 0))]) := by
  have c0 := cT_0 (h := h) (k := j) (by omega)
  have c1 := cT_1 (h := h) (k := j) (by omega)
  have cl := cT_len (h := h) (k := j) (by omega)
  have hle : j * 2 + 2 ≤ h.length := by omega
  have w2 : IntKind.i64.wrap ((j : Int) + 1) = ((j + 1 : Nat) : Int) := wrap_nat (n := j + 1) (by omega)
  have hne : ∀ x : Int, (x ≠ x) = False := fun x => eq_false (fun h => h rfl)
  have hz := @eN_zero e (h.getD (j * 2) 0) (h.getD (j * 2 + 1) 0)
  generalize h.getD (j * 2) 0 = kd at *
  generalize h.getD (j * 2 + 1) 0 = k at *
  by_cases k0 : kd = 0
  · have e1 : eN e kd k = eK e k 0 := by unfold eN; rw [if_pos k0]
    rw [e1] at hz ⊢
    have hlf := nlf_N (eK e k 0) 
    have h1 := ngt_N k e 
    have h2 := nget e k
    generalize eK e k 0 = e' at *
    by_cases z : e' ≠ 0
    · simp -implicitDefEqProofs only [f7_1, f7_1_6, asI_i, asN_n, asL_l, asB_b, asE_nil, Bool.cond_decide, Bool.cond_not, if_pos (show (j : Int) < m by omega), if_pos (show (j : Int) < 40 by omega), if_pos (show (0 : Int) ≤ j ∧ (j : Int) < m by omega), Int.toNat_natCast, if_pos hle, cl, if_true, if_pos (show 0 + 2 ≤ 2 by omega), drop2, List.append_nil, c0, c1, optK_some, altK_0, altK_1, altK_2, altK_3, altK_4, altK_5, altK_6, altK_R7, altK_R8, altK_R9, altK_R10, altK_R11, altK_R12, altK_R13, altK_R14, w2, hne, if_false, if_pos k0, h1, h2, if_pos z, ner_N, hlf]
    · simp -implicitDefEqProofs only [f7_1, f7_1_6, asI_i, asN_n, asL_l, asB_b, asE_nil, Bool.cond_decide, Bool.cond_not, if_pos (show (j : Int) < m by omega), if_pos (show (j : Int) < 40 by omega), if_pos (show (0 : Int) ≤ j ∧ (j : Int) < m by omega), Int.toNat_natCast, if_pos hle, cl, if_true, if_pos (show 0 + 2 ≤ 2 by omega), drop2, List.append_nil, c0, c1, optK_some, altK_0, altK_1, altK_2, altK_3, altK_4, altK_5, altK_6, altK_R7, altK_R8, altK_R9, altK_R10, altK_R11, altK_R12, altK_R13, altK_R14, w2, hne, if_false, if_pos k0, h1, h2, if_neg z, ner_N, hlf]
  by_cases k1 : kd = 1
  · have e1 : eN e kd k = eK e k 0 := by unfold eN; rw [if_neg k0, if_pos k1]
    rw [e1] at hz ⊢
    have hlf := nlf_N (eK e k 0) 
    have h1 := nsd_N k e 
    have h2 := nsg e k
    generalize eK e k 0 = e' at *
    by_cases z : e' ≠ 0
    · simp -implicitDefEqProofs only [f7_1, f7_1_6, asI_i, asN_n, asL_l, asB_b, asE_nil, Bool.cond_decide, Bool.cond_not, if_pos (show (j : Int) < m by omega), if_pos (show (j : Int) < 40 by omega), if_pos (show (0 : Int) ≤ j ∧ (j : Int) < m by omega), Int.toNat_natCast, if_pos hle, cl, if_true, if_pos (show 0 + 2 ≤ 2 by omega), drop2, List.append_nil, c0, c1, optK_some, altK_0, altK_1, altK_2, altK_3, altK_4, altK_5, altK_6, altK_R7, altK_R8, altK_R9, altK_R10, altK_R11, altK_R12, altK_R13, altK_R14, w2, hne, if_false, if_neg k0, if_pos k1, h1, h2, if_pos z, ner_N, hlf]
    · simp -implicitDefEqProofs only [f7_1, f7_1_6, asI_i, asN_n, asL_l, asB_b, asE_nil, Bool.cond_decide, Bool.cond_not, if_pos (show (j : Int) < m by omega), if_pos (show (j : Int) < 40 by omega), if_pos (show (0 : Int) ≤ j ∧ (j : Int) < m by omega), Int.toNat_natCast, if_pos hle, cl, if_true, if_pos (show 0 + 2 ≤ 2 by omega), drop2, List.append_nil, c0, c1, optK_some, altK_0, altK_1, altK_2, altK_3, altK_4, altK_5, altK_6, altK_R7, altK_R8, altK_R9, altK_R10, altK_R11, altK_R12, altK_R13, altK_R14, w2, hne, if_false, if_neg k0, if_pos k1, h1, h2, if_neg z, ner_N, hlf]
  by_cases k2 : kd = 2
  · have e1 : eN e kd k = if e = 0 then k else e := by unfold eN; rw [if_neg k0, if_neg k1, if_pos k2]
    rw [e1] at hz ⊢
    have hlf := nlf_N (if e = 0 then k else e) 
    have h1 := nfl_N k e
    by_cases q : e = 0
    · rw [if_pos q] at h1 hlf ⊢
      by_cases z : k ≠ 0
      · simp -implicitDefEqProofs only [f7_1, f7_1_6, asI_i, asN_n, asL_l, asB_b, asE_nil, Bool.cond_decide, Bool.cond_not, if_pos (show (j : Int) < m by omega), if_pos (show (j : Int) < 40 by omega), if_pos (show (0 : Int) ≤ j ∧ (j : Int) < m by omega), Int.toNat_natCast, if_pos hle, cl, if_true, if_pos (show 0 + 2 ≤ 2 by omega), drop2, List.append_nil, c0, c1, optK_some, altK_0, altK_1, altK_2, altK_3, altK_4, altK_5, altK_6, altK_R7, altK_R8, altK_R9, altK_R10, altK_R11, altK_R12, altK_R13, altK_R14, w2, hne, if_false, if_neg k0, if_neg k1, if_pos k2, h1, if_pos q, if_pos z, ner_N, hlf]
      · simp -implicitDefEqProofs only [f7_1, f7_1_6, asI_i, asN_n, asL_l, asB_b, asE_nil, Bool.cond_decide, Bool.cond_not, if_pos (show (j : Int) < m by omega), if_pos (show (j : Int) < 40 by omega), if_pos (show (0 : Int) ≤ j ∧ (j : Int) < m by omega), Int.toNat_natCast, if_pos hle, cl, if_true, if_pos (show 0 + 2 ≤ 2 by omega), drop2, List.append_nil, c0, c1, optK_some, altK_0, altK_1, altK_2, altK_3, altK_4, altK_5, altK_6, altK_R7, altK_R8, altK_R9, altK_R10, altK_R11, altK_R12, altK_R13, altK_R14, w2, hne, if_false, if_neg k0, if_neg k1, if_pos k2, h1, if_pos q, if_neg z, ner_N, hlf]
    · rw [if_neg q] at h1 hlf ⊢
      simp -implicitDefEqProofs only [f7_1, f7_1_6, asI_i, asN_n, asL_l, asB_b, asE_nil, Bool.cond_decide, Bool.cond_not, if_pos (show (j : Int) < m by omega), if_pos (show (j : Int) < 40 by omega), if_pos (show (0 : Int) ≤ j ∧ (j : Int) < m by omega), Int.toNat_natCast, if_pos hle, cl, if_true, if_pos (show 0 + 2 ≤ 2 by omega), drop2, List.append_nil, c0, c1, optK_some, altK_0, altK_1, altK_2, altK_3, altK_4, altK_5, altK_6, altK_R7, altK_R8, altK_R9, altK_R10, altK_R11, altK_R12, altK_R13, altK_R14, w2, hne, if_false, if_neg k0, if_neg k1, if_pos k2, h1, if_neg q, if_pos (show e ≠ 0 from q), ner_N, hlf]
  · have e1 : eN e kd k = e := by unfold eN; rw [if_neg k0, if_neg k1, if_neg k2]
    rw [e1] at hz ⊢
    have hlf := nlf_N e 
    have h1 := ned_N e 
    have h2 := nend e
    by_cases z : e ≠ 0
    · simp -implicitDefEqProofs only [f7_1, f7_1_6, asI_i, asN_n, asL_l, asB_b, asE_nil, Bool.cond_decide, Bool.cond_not, if_pos (show (j : Int) < m by omega), if_pos (show (j : Int) < 40 by omega), if_pos (show (0 : Int) ≤ j ∧ (j : Int) < m by omega), Int.toNat_natCast, if_pos hle, cl, if_true, if_pos (show 0 + 2 ≤ 2 by omega), drop2, List.append_nil, c0, c1, optK_some, altK_0, altK_1, altK_2, altK_3, altK_4, altK_5, altK_6, altK_R7, altK_R8, altK_R9, altK_R10, altK_R11, altK_R12, altK_R13, altK_R14, w2, hne, if_false, if_neg k0, if_neg k1, if_neg k2, h1, h2, if_pos z, ner_N, hlf]
    · simp -implicitDefEqProofs only [f7_1, f7_1_6, asI_i, asN_n, asL_l, asB_b, asE_nil, Bool.cond_decide, Bool.cond_not, if_pos (show (j : Int) < m by omega), if_pos (show (j : Int) < 40 by omega), if_pos (show (0 : Int) ≤ j ∧ (j : Int) < m by omega), Int.toNat_natCast, if_pos hle, cl, if_true, if_pos (show 0 + 2 ≤ 2 by omega), drop2, List.append_nil, c0, c1, optK_some, altK_0, altK_1, altK_2, altK_3, altK_4, altK_5, altK_6, altK_R7, altK_R8, altK_R9, altK_R10, altK_R11, altK_R12, altK_R13, altK_R14, w2, hne, if_false, if_neg k0, if_neg k1, if_neg k2, h1, h2, if_neg z, ner_N, hlf]
set_option maxHeartbeats 4000000 in
theorem nround_U (m : Nat) (h : List Int) (j : Nat) (hj : j < m) (h40 : j < 40) (hm : m * 2 ≤ h.length) (e : Int) : f7_1 (9, [.n m, .i j, .l h, .n 0, .i 0, .i e, .i e]) = some (9, [.n m, .i (j + 1 : Nat), .l h, .n 0, .i 0, .i (eN e (h.getD (j * 2) 0) (h.getD (j * 2 + 1) 0)), .i (eN e (h.getD (j * 2) 0) (h.getD (j * 2 + 1) 0))]) := by
  have c0 := cT_0 (h := h) (k := j) (by omega)
  have c1 := cT_1 (h := h) (k := j) (by omega)
  have cl := cT_len (h := h) (k := j) (by omega)
  have hle : j * 2 + 2 ≤ h.length := by omega
  have w2 : IntKind.i64.wrap ((j : Int) + 1) = ((j + 1 : Nat) : Int) := wrap_nat (n := j + 1) (by omega)
  have hne : ∀ x : Int, (x ≠ x) = False := fun x => eq_false (fun h => h rfl)
  have hz := @eN_zero e (h.getD (j * 2) 0) (h.getD (j * 2 + 1) 0)
  generalize h.getD (j * 2) 0 = kd at *
  generalize h.getD (j * 2 + 1) 0 = k at *
  by_cases k0 : kd = 0
  · have e1 : eN e kd k = eK e k 0 := by unfold eN; rw [if_pos k0]
    rw [e1] at hz ⊢
    have hlf := nlf_U (eK e k 0) 
    have h1 := ngt_U k e 
    have h2 := nget e k
    generalize eK e k 0 = e' at *
    by_cases z : e' ≠ 0
    · simp -implicitDefEqProofs only [f7_1, f7_1_9, asI_i, asN_n, asL_l, asB_b, asE_nil, Bool.cond_decide, Bool.cond_not, if_pos (show (j : Int) < m by omega), if_pos (show (j : Int) < 40 by omega), if_pos (show (0 : Int) ≤ j ∧ (j : Int) < m by omega), Int.toNat_natCast, if_pos hle, cl, if_true, if_pos (show 0 + 2 ≤ 2 by omega), drop2, List.append_nil, c0, c1, optK_some, altK_0, altK_1, altK_2, altK_3, altK_4, altK_5, altK_6, altK_R7, altK_R8, altK_R9, altK_R10, altK_R11, altK_R12, altK_R13, altK_R14, w2, hne, if_false, if_pos k0, h1, h2, if_pos z, ner_U, hlf]
    · simp -implicitDefEqProofs only [f7_1, f7_1_9, asI_i, asN_n, asL_l, asB_b, asE_nil, Bool.cond_decide, Bool.cond_not, if_pos (show (j : Int) < m by omega), if_pos (show (j : Int) < 40 by omega), if_pos (show (0 : Int) ≤ j ∧ (j : Int) < m by omega), Int.toNat_natCast, if_pos hle, cl, if_true, if_pos (show 0 + 2 ≤ 2 by omega), drop2, List.append_nil, c0, c1, optK_some, altK_0, altK_1, altK_2, altK_3, altK_4, altK_5, altK_6, altK_R7, altK_R8, altK_R9, altK_R10, altK_R11, altK_R12, altK_R13, altK_R14, w2, hne, if_false, if_pos k0, h1, h2, if_neg z, ner_U, hlf]
  by_cases k1 : kd = 1
  · have e1 : eN e kd k = eK e k 0 := by unfold eN; rw [if_neg k0, if_pos k1]
    rw [e1] at hz ⊢
    have hlf := nlf_U (eK e k 0) 
    have h1 := nsd_U k e 
    have h2 := nsg e k
    generalize eK e k 0 = e' at *
    by_cases z : e' ≠ 0
    · simp -implicitDefEqProofs only [f7_1, f7_1_9, asI_i, asN_n, asL_l, asB_b, asE_nil, Bool.cond_decide, Bool.cond_not, if_pos (show (j : Int) < m by omega), if_pos (show (j : Int) < 40 by omega), if_pos (show (0 : Int) ≤ j ∧ (j : Int) < m by omega), Int.toNat_natCast, if_pos hle, cl, if_true, if_pos (show 0 + 2 ≤ 2 by omega), drop2, List.append_nil, c0, c1, optK_some, altK_0, altK_1, altK_2, altK_3, altK_4, altK_5, altK_6, altK_R7, altK_R8, altK_R9, altK_R10, altK_R11, altK_R12, altK_R13, altK_R14, w2, hne, if_false, if_neg k0, if_pos k1, h1, h2, if_pos z, ner_U, hlf]
    · simp -implicitDefEqProofs only [f7_1, f7_1_9, asI_i, asN_n, asL_l, asB_b, asE_nil, Bool.cond_decide, Bool.cond_not, if_pos (show (j : Int) < m by omega), if_pos (show (j : Int) < 40 by omega), if_pos (show (0 : Int) ≤ j ∧ (j : Int) < m by omega), Int.toNat_natCast, if_pos hle, cl, if_true, if_pos (show 0 + 2 ≤ 2 by omega), drop2, List.append_nil, c0, c1, optK_some, altK_0, altK_1, altK_2, altK_3, altK_4, altK_5, altK_6, altK_R7, altK_R8, altK_R9, altK_R10, altK_R11, altK_R12, altK_R13, altK_R14, w2, hne, if_false, if_neg k0, if_pos k1, h1, h2, if_neg z, ner_U, hlf]
  by_cases k2 : kd = 2
  · have e1 : eN e kd k = if e = 0 then k else e := by unfold eN; rw [if_neg k0, if_neg k1, if_pos k2]
    rw [e1] at hz ⊢
    have hlf := nlf_U (if e = 0 then k else e) 
    have h1 := nfl_U k e
    by_cases q : e = 0
    · rw [if_pos q] at h1 hlf ⊢
      by_cases z : k ≠ 0
      · simp -implicitDefEqProofs only [f7_1, f7_1_9, asI_i, asN_n, asL_l, asB_b, asE_nil, Bool.cond_decide, Bool.cond_not, if_pos (show (j : Int) < m by omega), if_pos (show (j : Int) < 40 by omega), if_pos (show (0 : Int) ≤ j ∧ (j : Int) < m by omega), Int.toNat_natCast, if_pos hle, cl, if_true, if_pos (show 0 + 2 ≤ 2 by omega), drop2, List.append_nil, c0, c1, optK_some, altK_0, altK_1, altK_2, altK_3, altK_4, altK_5, altK_6, altK_R7, altK_R8, altK_R9, altK_R10, altK_R11, altK_R12, altK_R13, altK_R14, w2, hne, if_false, if_neg k0, if_neg k1, if_pos k2, h1, if_pos q, if_pos z, ner_U, hlf]
      · simp -implicitDefEqProofs only [f7_1, f7_1_9, asI_i, asN_n, asL_l, asB_b, asE_nil, Bool.cond_decide, Bool.cond_not, if_pos (show (j : Int) < m by omega), if_pos (show (j : Int) < 40 by omega), if_pos (show (0 : Int) ≤ j ∧ (j : Int) < m by omega), Int.toNat_natCast, if_pos hle, cl, if_true, if_pos (show 0 + 2 ≤ 2 by omega), drop2, List.append_nil, c0, c1, optK_some, altK_0, altK_1, altK_2, altK_3, altK_4, altK_5, altK_6, altK_R7, altK_R8, altK_R9, altK_R10, altK_R11, altK_R12, altK_R13, altK_R14, w2, hne, if_false, if_neg k0, if_neg k1, if_pos k2, h1, if_pos q, if_neg z, ner_U, hlf]
    · rw [if_neg q] at h1 hlf ⊢
      simp -implicitDefEqProofs only [f7_1, f7_1_9, asI_i, asN_n, asL_l, asB_b, asE_nil, Bool.cond_decide, Bool.cond_not, if_pos (show (j : Int) < m by omega), if_pos (show (j : Int) < 40 by omega), if_pos (show (0 : Int) ≤ j ∧ (j : Int) < m by omega), Int.toNat_natCast, if_pos hle, cl, if_true, if_pos (show 0 + 2 ≤ 2 by omega), drop2, List.append_nil, c0, c1, optK_some, altK_0, altK_1, altK_2, altK_3, altK_4, altK_5, altK_6, altK_R7, altK_R8, altK_R9, altK_R10, altK_R11, altK_R12, altK_R13, altK_R14, w2, hne, if_false, if_neg k0, if_neg k1, if_pos k2, h1, if_neg q, if_pos (show e ≠ 0 from q), ner_U, hlf]
  · have e1 : eN e kd k = e := by unfold eN; rw [if_neg k0, if_neg k1, if_neg k2]
    rw [e1] at hz ⊢
    have hlf := nlf_U e 
    have h1 := ned_U e 
    have h2 := nend e
    by_cases z : e ≠ 0
    · simp -implicitDefEqProofs only [f7_1, f7_1_9, asI_i, asN_n, asL_l, asB_b, asE_nil, Bool.cond_decide, Bool.cond_not, if_pos (show (j : Int) < m by omega), if_pos (show (j : Int) < 40 by omega), if_pos (show (0 : Int) ≤ j ∧ (j : Int) < m by omega), Int.toNat_natCast, if_pos hle, cl, if_true, if_pos (show 0 + 2 ≤ 2 by omega), drop2, List.append_nil, c0, c1, optK_some, altK_0, altK_1, altK_2, altK_3, altK_4, altK_5, altK_6, altK_R7, altK_R8, altK_R9, altK_R10, altK_R11, altK_R12, altK_R13, altK_R14, w2, hne, if_false, if_neg k0, if_neg k1, if_neg k2, h1, h2, if_pos z, ner_U, hlf]
    · simp -implicitDefEqProofs only [f7_1, f7_1_9, asI_i, asN_n, asL_l, asB_b, asE_nil, Bool.cond_decide, Bool.cond_not, if_pos (show (j : Int) < m by omega), if_pos (show (j : Int) < 40 by omega), if_pos (show (0 : Int) ≤ j ∧ (j : Int) < m by omega), Int.toNat_natCast, if_pos hle, cl, if_true, if_pos (show 0 + 2 ≤ 2 by omega), drop2, List.append_nil, c0, c1, optK_some, altK_0, altK_1, altK_2, altK_3, altK_4, altK_5, altK_6, altK_R7, altK_R8, altK_R9, altK_R10, altK_R11, altK_R12, altK_R13, altK_R14, w2, hne, if_false, if_neg k0, if_neg k1, if_neg k2, h1, h2, if_neg z, ner_U, hlf]
end Go.Proofs.Ytkahlinndcnjiaa
