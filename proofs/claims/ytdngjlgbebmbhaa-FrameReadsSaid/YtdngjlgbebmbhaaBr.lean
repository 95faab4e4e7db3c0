/-
  What a reader of bits answers. Conditions: none.
-/
import Derived.Test.YtdngjlgbebmbhaaDecG
import Derived.Test.YtdngjlgbebmbhaaRdB
import Derived.KernelRfl
namespace Go.Proofs.Ytdngjlgbebmbhaa
open Go Go.Sx G
set_option maxRecDepth 100000
set_option linter.unusedVariables false
attribute [local simp] asI_i asB_b asL_l asN_n asS_s asE_nil altK_none altK_0 altK_1 altK_2 altK_3 optK_some optK_none Bool.cond_decide Bool.cond_not Int.toNat_natCast
set_option linter.unusedSimpArgs false
section
variable (B : List Int) (n : Nat)
theorem left_e (a : Nat) (e : Int) (he : e ≠ 0) : g36 (0, [.n n, .l B, .i a, .i e]) = some (0, [.i 0, .n n, .l B, .i a, .i e]) := by
  simp -implicitDefEqProofs only [g36, g36_0, asI4_i, asI_i, asN_n, asL_l, asE_nil, Bool.cond_decide, if_pos he]
theorem left_0 (a : Nat) (ha : a ≤ 8 * n) (hn : n ≤ 1000) : g36 (0, [.n n, .l B, .i a, .i 0]) = some (0, [.i ((8 * n - a : Nat) : Int), .n n, .l B, .i a, .i 0]) := by
  have w : IntKind.i64.wrap (8 * (n : Int)) = 8 * n := wrap64 (by omega) (by omega)
  have w1 : IntKind.i64.wrap (8 * (n : Int) - a) = ((8 * n - a : Nat) : Int) := by rw [wrap64 (by omega) (by omega)]; omega
  simp -implicitDefEqProofs only [g36, g36_0, asI4_i, asI_i, asN_n, asL_l, asE_nil, Bool.cond_decide, if_neg (show ¬ (0 : Int) ≠ 0 by omega), w, w1]
theorem fail_ok (k a e : Int) : g33 (0, [.i k, .n n, .l B, .i a, .i e]) = some (0, [.n n, .l B, .i a, .i (if e = 0 then k else e)]) := by
  by_cases h : e = 0
  · simp -implicitDefEqProofs only [g33, g33_0, asI4_i, asI_i, asN_n, asL_l, asE_nil, Bool.cond_decide, if_pos h]
  · simp -implicitDefEqProofs only [g33, g33_0, asI4_i, asI_i, asN_n, asL_l, asE_nil, Bool.cond_decide, if_neg h]
theorem get_bad (a : Nat) (e k : Int) (ha : a ≤ 8 * n) (hn : n ≤ 1000) (h : eK e k ((8 * n - a : Nat) : Int) ≠ 0) :
    g32 (0, [.i k, .n n, .l B, .i a, .i e]) = some (0, [.i 0, .n n, .l B, .i a, .i (eK e k ((8 * n - a : Nat) : Int))]) := by
  by_cases h0 : e ≠ 0
  · rw [eK_ne h0] at h ⊢
    simp -implicitDefEqProofs only [g32, g32_0, asI4_i, asI_i, asN_n, asL_l, asE_nil, Bool.cond_decide, if_pos h0]
  · obtain rfl : e = 0 := Classical.not_not.1 h0
    by_cases h1 : k < 0
    · rw [eK_neg h1]
      simp -implicitDefEqProofs only [g32, g32_0, asI4_i, asI_i, asN_n, asL_l, asE_nil, Bool.cond_decide, if_neg h0, if_pos h1]
    · by_cases h2 : 57 < k
      · rw [eK_big h2]
        simp -implicitDefEqProofs only [g32, g32_0, asI4_i, asI_i, asN_n, asL_l, asE_nil, Bool.cond_decide, if_neg h0, if_neg h1, if_pos h2]
      · by_cases h3 : ((8 * n - a : Nat) : Int) < k
        · rw [eK_short h1 h2 h3]
          simp -implicitDefEqProofs only [g32, g32_0, asI4_i, asI_i, asN_n, asL_l, asE_nil, Bool.cond_decide, if_neg h0, if_neg h1, if_neg h2, left_0 B n a ha hn, altK_0, if_pos h3]
        · exact absurd (eK_ok h1 h2 h3) h
theorem get_ok (hB : ∀ x ∈ B, 0 ≤ x ∧ x ≤ 255) (hl : n ≤ B.length) (hn : n ≤ 1000) (a k : Nat) (hk : k ≤ 57) (ha : a + k ≤ 8 * n) :
    g32 (0, [.i k, .n n, .l B, .i a, .i 0]) = some (0, [.i (vK B a k), .n n, .l B, .i (a + k : Nat), .i 0]) := by
  have hL : L32_0 (0, [.i 0, .i k, .i 0, .n n, .l B, .i a, .i 0]) = some (0, [.i (vK B a k), .n n, .l B, .i (a + k : Nat), .i 0]) := by
    refine loopL_run (m := 1) (f := f32_0) (fun j => (0, [.i (vK B a j), .i k, .i j, .n n, .l B, .i (a + j : Nat), .i 0])) k (fun j hj => ⟨?_, by show 0 < 1; omega⟩) ?_ (by omega)
    · have hx : B[(a + j) / 8]? = some (B.getD ((a + j) / 8) 0) := get_some (by omega)
      have hm : B.getD ((a + j) / 8) 0 ∈ B := List.mem_of_getElem? hx
      have hr := hB _ hm
      have h1 : Int.tmod ((a + j : Nat) : Int) 8 = (((a + j) % 8 : Nat) : Int) := by rw [Int.tmod_eq_emod_of_nonneg (by omega)]; omega
      have h2 : IntKind.i64.wrap (Int.tdiv ((a + j : Nat) : Int) 8) = (((a + j) / 8 : Nat) : Int) := by rw [Int.tdiv_eq_ediv_of_nonneg (by omega), wrap64 (by omega) (by omega)]; omega
      have h3 : IntKind.i64.wrap (7 - (((a + j) % 8 : Nat) : Int)) = ((7 - (a + j) % 8 : Nat) : Int) := by rw [wrap64 (by omega) (by omega)]; omega
      have h4 : IntKind.i64.wrap (((a + j : Nat) : Int) + 1) = ((a + (j + 1) : Nat) : Int) := wrap_nat (n := a + (j + 1)) (by omega)
      have w2 : IntKind.i64.wrap ((j : Int) + 1) = ((j + 1 : Nat) : Int) := wrap_nat (n := j + 1) (by omega)
      have h5 := get_bit hr.1 hr.2 (s := 7 - (a + j) % 8) (by omega)
      have hv := vK_in B a j
      have hp := pw_57 (k := j) (by omega)
      have h6 := or_bit (v := vK B a j) (b := bt B (a + j)) hv.1 (by omega) (bt_01 _ _)
      have e : bt B (a + j) = B.getD ((a + j) / 8) 0 / pw (7 - (a + j) % 8) % 2 := rfl
      have e1 : vK B a (j + 1) = 2 * vK B a j + bt B (a + j) := rfl
      rw [e1, ← h6, e, ← h5]
      generalize B.getD ((a + j) / 8) 0 = x at *
      generalize vK B a j = v at *
      generalize hq : 7 - (a + j) % 8 = q at *
      simp -implicitDefEqProofs only [f32_0, f32_0_0, asI4_i, asI_i, asN_n, asL_l, asE_nil, Bool.cond_decide, if_pos (show (j : Int) < k by omega), h1, h2, h3, if_pos (show (0 : Int) ≤ (((a + j) / 8 : Nat) : Int) ∧ (((a + j) / 8 : Nat) : Int) < n by omega), Int.toNat_natCast, hx, optK_some, if_neg (show ¬ (q : Int) < 0 by omega), h4, w2]
    · simp -implicitDefEqProofs only [f32_0, f32_0_0, asI4_i, asI_i, asN_n, asL_l, asE_nil, Bool.cond_decide, if_neg (Int.lt_irrefl _)]
  simp -implicitDefEqProofs only [g32, g32_0, asI4_i, asI_i, asN_n, asL_l, asE_nil, Bool.cond_decide, if_neg (show ¬ (0 : Int) ≠ 0 by omega), if_neg (show ¬ (k : Int) < 0 by omega), if_neg (show ¬ (57 : Int) < k by omega), left_0 B n a (by omega) hn, altK_0, if_neg (show ¬ ((8 * n - a : Nat) : Int) < k by omega), hL]
theorem sg_bad (a : Nat) (e k : Int) (ha : a ≤ 8 * n) (hn : n ≤ 1000) (h : eK e k ((8 * n - a : Nat) : Int) ≠ 0) :
    g34 (0, [.i k, .n n, .l B, .i a, .i e]) = some (0, [.i 0, .n n, .l B, .i a, .i (eK e k ((8 * n - a : Nat) : Int))]) := by
  simp -implicitDefEqProofs only [g34, g34_0, asI4_i, asI_i, asN_n, asL_l, asE_nil, Bool.cond_decide, get_bad B n a e k ha hn h, altK_0, if_pos h]
theorem sg_ok (hB : ∀ x ∈ B, 0 ≤ x ∧ x ≤ 255) (hl : n ≤ B.length) (hn : n ≤ 1000) (a k : Nat) (hk : k ≤ 57) (ha : a + k ≤ 8 * n) :
    g34 (0, [.i k, .n n, .l B, .i a, .i 0]) = some (0, [.i (sV (vK B a k) k), .n n, .l B, .i (a + k : Nat), .i 0]) := by
  have hg := get_ok B n hB hl hn a k hk ha
  by_cases h0 : k = 0
  · have e : sV (vK B a k) k = 0 := if_pos h0
    rw [e]
    simp -implicitDefEqProofs only [g34, g34_0, asI4_i, asI_i, asN_n, asL_l, asE_nil, Bool.cond_decide, hg, altK_0, if_neg (show ¬ (0 : Int) ≠ 0 by omega), if_pos (show (k : Int) = 0 by omega)]
  · have hv := vK_in B a k
    have hp := pw_57 hk
    have w1 : IntKind.i64.wrap ((k : Int) - 1) = ((k - 1 : Nat) : Int) := by rw [wrap64 (by omega) (by omega)]; omega
    have ht := top_bit hv.1 hv.2 (by omega)
    have w2 : IntKind.i64.wrap (vK B a k) = vK B a k := wrap64 (by omega) (by omega)
    have w3 : IntKind.i64.wrap (vK B a k - pw k) = vK B a k - pw k := wrap64 (by omega) (by omega)
    have e : sV (vK B a k) k = if pw (k - 1) ≤ vK B a k then vK B a k - pw k else vK B a k := if_neg h0
    rw [e]
    have hs := shr_pw (v := vK B a k) (k := k - 1) (by omega)
    have hs2 := shl_pw hk
    generalize vK B a k = v at *
    by_cases c : pw (k - 1) ≤ v
    · rw [if_pos c]
      simp -implicitDefEqProofs only [g34, g34_0, asI4_i, asI_i, asN_n, asL_l, asE_nil, Bool.cond_decide, hg, altK_0, if_neg (show ¬ (0 : Int) ≠ 0 by omega), if_neg (show ¬ (k : Int) = 0 by omega), w1, if_neg (show ¬ ((k - 1 : Nat) : Int) < 0 by omega), hs, if_pos (ht.2 c), if_neg (show ¬ (k : Int) < 0 by omega), w2, hs2, w3]
    · rw [if_neg c]
      simp -implicitDefEqProofs only [g34, g34_0, asI4_i, asI_i, asN_n, asL_l, asE_nil, Bool.cond_decide, hg, altK_0, if_neg (show ¬ (0 : Int) ≠ 0 by omega), if_neg (show ¬ (k : Int) = 0 by omega), w1, if_neg (show ¬ ((k - 1 : Nat) : Int) < 0 by omega), hs, if_neg (fun q => c (ht.1 q)), w2]
/-! ### End -/
theorem end_e (a : Nat) (e : Int) (he : e ≠ 0) : g35 (0, [.n n, .l B, .i a, .i e]) = some (0, [.i e, .n n, .l B, .i a, .i e]) := by
  have hL : L35_0 (0, [.n n, .l B, .i a, .i e]) = some (0, [.n n, .l B, .i a, .i e]) := loopL_last (m := 1) (f := f35_0) (j := 0) (by
    simp -implicitDefEqProofs only [f35_0, f35_0_0, asI4_i, asI_i, asN_n, asL_l, asE_nil, Bool.cond_decide, left_e B n a e he, altK_0, if_neg (Int.lt_irrefl _)])
  simp -implicitDefEqProofs only [g35, g35_0, asI4_i, asI_i, asN_n, asL_l, asE_nil, hL, altK_0]
theorem end_round (hB : ∀ x ∈ B, 0 ≤ x ∧ x ≤ 255) (hl : n ≤ B.length) (hn : n ≤ 1000) (a : Nat) (ha : a < 8 * n) :
    f35_0 (0, [.n n, .l B, .i a, .i 0]) = some (0, [.n n, .l B, .i (a + 1 : Nat), .i (if bt B a = 1 then 4 else 0)]) := by
  have hg := get_ok B n hB hl hn a 1 (by omega) (by omega)
  have e : vK B a 1 = bt B a := by show 2 * 0 + bt B (a + 0) = _; rw [Nat.add_zero]; omega
  rw [e] at hg
  have hb := bt_01 B a
  have hg' : g32 (0, [.i 1, .n n, .l B, .i a, .i 0]) = some (0, [.i (bt B a), .n n, .l B, .i (a + 1 : Nat), .i 0]) := hg
  by_cases c : bt B a = 1
  · rw [c] at hg'
    rw [if_pos c]
    simp -implicitDefEqProofs only [f35_0, f35_0_0, asI4_i, asI_i, asN_n, asL_l, asE_nil, Bool.cond_decide, left_0 B n a (by omega) hn, altK_0, if_pos (show (0 : Int) < ((8 * n - a : Nat) : Int) by omega), hg', if_pos (show (1 : Int) ≠ 0 by omega), fail_ok, if_true]
  · rw [hb.resolve_right c] at hg'
    rw [if_neg c]
    simp -implicitDefEqProofs only [f35_0, f35_0_0, asI4_i, asI_i, asN_n, asL_l, asE_nil, Bool.cond_decide, left_0 B n a (by omega) hn, altK_0, if_pos (show (0 : Int) < ((8 * n - a : Nat) : Int) by omega), hg', if_neg (show ¬ (0 : Int) ≠ 0 by omega)]
theorem end_0 (hB : ∀ x ∈ B, 0 ≤ x ∧ x ≤ 255) (hl : n ≤ B.length) (hn : n ≤ 1000) (a : Nat) (ha : a ≤ 8 * n) :
    ∃ a', a' ≤ 8 * n ∧ (anyK B a (8 * n - a) = false → a' = 8 * n) ∧
      g35 (0, [.n n, .l B, .i a, .i 0]) = some (0, [.i (if anyK B a (8 * n - a) = true then 4 else 0), .n n, .l B, .i (a' : Nat), .i (if anyK B a (8 * n - a) = true then 4 else 0)]) := by
  by_cases c : anyK B a (8 * n - a) = true
  · obtain ⟨k, hk, h1, h2⟩ := anyK_true B a _ c
    refine ⟨a + k + 1, by omega, (fun q => by rw [c] at q; cases q), ?_⟩
    rw [if_pos c]
    have hL : L35_0 (0, [.n n, .l B, .i a, .i 0]) = some (0, [.n n, .l B, .i (a + k + 1 : Nat), .i 4]) := by
      let S : Nat → Nat × List Leaf := fun j => if j ≤ k then (0, [.n n, .l B, .i (a + j : Nat), .i 0]) else (0, [.n n, .l B, .i (a + k + 1 : Nat), .i 4])
      have S1 : ∀ j, j ≤ k → S j = (0, [.n n, .l B, .i (a + j : Nat), .i 0]) := fun j hj => if_pos hj
      have S2 : S (k + 1) = (0, [.n n, .l B, .i (a + k + 1 : Nat), .i 4]) := if_neg (by omega)
      have main := loopL_run (m := 1) (f := f35_0) S (k + 1) (j := 0) (r := [.n n, .l B, .i (a + k + 1 : Nat), .i 4]) (fun j hj => ?_) ?_ (by omega)
      · rw [S1 0 (by omega)] at main; unfold L35_0; exact main
      · have hr := end_round B n hB hl hn (a + j) (by omega)
        rw [S1 j (by omega)]
        by_cases q : j = k
        · subst q
          rw [if_pos h1] at hr
          rw [S2]
          exact ⟨hr, by show 0 < 1; omega⟩
        · rw [if_neg (by rw [h2 j (by omega)]; omega)] at hr
          rw [S1 (j + 1) (by omega)]
          exact ⟨hr, by show 0 < 1; omega⟩
      · rw [S2]
        simp -implicitDefEqProofs only [f35_0, f35_0_0, asI4_i, asI_i, asN_n, asL_l, asE_nil, Bool.cond_decide, left_e B n (a + k + 1) 4 (by omega), altK_0, if_neg (Int.lt_irrefl _)]
    simp -implicitDefEqProofs only [g35, g35_0, asI4_i, asI_i, asN_n, asL_l, asE_nil, hL, altK_0]
  · have c' : anyK B a (8 * n - a) = false := by simpa using c
    refine ⟨8 * n, Nat.le_refl _, fun _ => rfl, ?_⟩
    rw [if_neg c]
    have hz := anyK_false B a _ c'
    have hL : L35_0 (0, [.n n, .l B, .i a, .i 0]) = some (0, [.n n, .l B, .i (8 * n : Nat), .i 0]) := by
      have main := loopL_run (m := 1) (f := f35_0) (fun j => (0, [.n n, .l B, .i (a + j : Nat), .i 0])) (8 * n - a) (j := 0) (r := [.n n, .l B, .i (8 * n : Nat), .i 0]) (fun j hj => ⟨?_, by show 0 < 1; omega⟩) ?_ (by omega)
      · unfold L35_0; exact main
      · have hr := end_round B n hB hl hn (a + j) (by omega)
        rw [if_neg (by rw [hz j hj]; omega)] at hr
        exact hr
      · have h8 : a + (8 * n - a) = 8 * n := by omega
        have h0 := left_0 B n (8 * n) (Nat.le_refl _) hn
        rw [Nat.sub_self] at h0
        simp only [h8]
        simp -implicitDefEqProofs only [f35_0, f35_0_0, asI4_i, asI_i, asN_n, asL_l, asE_nil, Bool.cond_decide, h0, altK_0, if_neg (show ¬ (0 : Int) < ((0 : Nat) : Int) by omega)]
    simp -implicitDefEqProofs only [g35, g35_0, asI4_i, asI_i, asN_n, asL_l, asE_nil, hL, altK_0]
end
end Go.Proofs.Ytdngjlgbebmbhaa
