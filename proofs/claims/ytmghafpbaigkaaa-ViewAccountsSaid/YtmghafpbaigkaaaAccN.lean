/-
  ViewAccounts, with a frame of one kind. Conditions: none.
-/
import Derived.Test.YtmghafpbaigkaaaAccB
import Derived.Test.YtmghafpbaigkaaaDecN
namespace Go.Proofs.Ytmghafpbaigkaaa
open Go Go.Sx N
set_option maxRecDepth 100000
set_option linter.unusedVariables false
attribute [local simp] asI_i asB_b asL_l asN_n asS_s asE_nil altK_none altK_0 altK_1 altK_2 altK_3 optK_some optK_none Bool.cond_decide Bool.cond_not Int.toNat_natCast
set_option linter.unusedSimpArgs false
theorem altK_N7 {α : Type} (r : List Leaf) (k0 k1 k2 k3 k4 k5 k6 k7 : List Leaf → α) (ks : List (List Leaf → α)) (z : α) : altK (some (7, r)) (k0 :: k1 :: k2 :: k3 :: k4 :: k5 :: k6 :: k7 :: ks) z = k7 r := rfl
theorem altK_N8 {α : Type} (r : List Leaf) (k0 k1 k2 k3 k4 k5 k6 k7 k8 : List Leaf → α) (ks : List (List Leaf → α)) (z : α) : altK (some (8, r)) (k0 :: k1 :: k2 :: k3 :: k4 :: k5 :: k6 :: k7 :: k8 :: ks) z = k8 r := rfl
theorem altK_N9 {α : Type} (r : List Leaf) (k0 k1 k2 k3 k4 k5 k6 k7 k8 k9 : List Leaf → α) (ks : List (List Leaf → α)) (z : α) : altK (some (9, r)) (k0 :: k1 :: k2 :: k3 :: k4 :: k5 :: k6 :: k7 :: k8 :: k9 :: ks) z = k9 r := rfl
theorem altK_N10 {α : Type} (r : List Leaf) (k0 k1 k2 k3 k4 k5 k6 k7 k8 k9 k10 : List Leaf → α) (ks : List (List Leaf → α)) (z : α) : altK (some (10, r)) (k0 :: k1 :: k2 :: k3 :: k4 :: k5 :: k6 :: k7 :: k8 :: k9 :: k10 :: ks) z = k10 r := rfl
theorem fits_N (v k : Int) : ∃ b, g29 (0, [.i v, .i k]) = some (0, [.b b]) := by
  by_cases c0 : k ≤ 0
  · exact ⟨_, by simp -implicitDefEqProofs only [g29, g29_0, asI_i, asI4_i, asN_n, asL_l, asB_b, asE_nil, Bool.cond_decide, Bool.cond_not, if_pos c0]; rfl⟩
  · by_cases c1 : 63 < k
    · exact ⟨true, by simp -implicitDefEqProofs only [g29, g29_0, asI_i, asI4_i, asN_n, asL_l, asB_b, asE_nil, Bool.cond_decide, Bool.cond_not, if_neg c0, if_pos c1]⟩
    · have w : IntKind.i64.wrap (k - 1) = k - 1 := wrap64 (by omega) (by omega)
      by_cases c2 : shlI .i64 (-1) (k - 1) ≤ v
      · exact ⟨_, by simp -implicitDefEqProofs only [g29, g29_0, asI_i, asI4_i, asN_n, asL_l, asB_b, asE_nil, Bool.cond_decide, Bool.cond_not, if_neg c0, if_neg c1, w, if_neg (show ¬ k - 1 < 0 by omega), if_pos c2]; rfl⟩
      · exact ⟨false, by simp -implicitDefEqProofs only [g29, g29_0, asI_i, asI4_i, asN_n, asL_l, asB_b, asE_nil, Bool.cond_decide, Bool.cond_not, if_neg c0, if_neg c1, w, if_neg (show ¬ k - 1 < 0 by omega), if_neg c2]⟩
theorem hold_N (x : Int) : ∃ y, g12 (0, [.i x]) = some (0, [.i y]) := by
  simp -implicitDefEqProofs only [g12, g12_0, asI_i, asI4_i, asN_n, asL_l, asB_b, asE_nil, Bool.cond_decide, Bool.cond_not]
  (repeat' split) <;> exact ⟨_, rfl⟩
theorem gains_N (s : List Int) (hs : s.length = 4) : ∃ b, g26 (0, [.l s]) = some (0, [.b b]) := by
  have hl : L26_0 (0, [.l s, .i 0, .l s]) = some (0, [.l s]) ∨ L26_0 (0, [.l s, .i 0, .l s]) = some (1, [.l s]) := by
    have := loop_chain (m := 1) (f := f26_0) (fun k => (0, [.l s, .i k, .l s])) 4 (ja := 1) (jb := 0) (ra := [.l s]) (rb := [.l s]) (fun k _ => by show 0 < 1; omega) (fun k hk => ?_) ?_ (by omega)
    · rcases this with h | h
      · exact Or.inr (by unfold L26_0; exact h)
      · exact Or.inl (by unfold L26_0; exact h)
    · have hx : s[k]? = some (s.getD k 0) := get_some (by omega)
      have w2 : IntKind.i64.wrap ((k : Int) + 1) = ((k + 1 : Nat) : Int) := wrap_nat (n := k + 1) (by omega)
      generalize s.getD k 0 = v at *
      simp -implicitDefEqProofs only [f26_0, f26_0_0, asI_i, asI4_i, asN_n, asL_l, asB_b, asE_nil, Bool.cond_decide, Bool.cond_not, if_pos (show (k : Int) < 4 by omega), if_pos (show (0 : Int) ≤ k ∧ (k : Int) < 4 by omega), Int.toNat_natCast, hx, optK_some, w2]
      (repeat' split) <;> first | exact Or.inl rfl | exact Or.inr rfl
    · simp -implicitDefEqProofs only [f26_0, f26_0_0, asI_i, asI4_i, asN_n, asL_l, asB_b, asE_nil, Bool.cond_decide, Bool.cond_not, if_neg (show ¬ ((4 : Nat) : Int) < 4 by omega)]
  have ht : List.take 4 s = s := List.take_of_length_le (by omega)
  rcases hl with hl | hl
  · exact ⟨true, by simp -implicitDefEqProofs only [g26, g26_0, asI_i, asI4_i, asN_n, asL_l, asB_b, asE_nil, Bool.cond_decide, Bool.cond_not, if_pos (show 4 ≤ s.length by omega), ht, hl, altK_0]⟩
  · exact ⟨false, by simp -implicitDefEqProofs only [g26, g26_0, asI_i, asI4_i, asN_n, asL_l, asB_b, asE_nil, Bool.cond_decide, Bool.cond_not, if_pos (show 4 ≤ s.length by omega), ht, hl, altK_1]⟩
theorem scales_N (s : List Int) (hs : s.length = 4) : ∃ b, g28 (0, [.l s]) = some (0, [.b b]) := by
  have hl : L28_0 (0, [.l s, .i 0, .l s]) = some (0, [.l s]) ∨ L28_0 (0, [.l s, .i 0, .l s]) = some (1, [.l s]) := by
    have := loop_chain (m := 1) (f := f28_0) (fun k => (0, [.l s, .i k, .l s])) 4 (ja := 1) (jb := 0) (ra := [.l s]) (rb := [.l s]) (fun k _ => by show 0 < 1; omega) (fun k hk => ?_) ?_ (by omega)
    · rcases this with h | h
      · exact Or.inr (by unfold L28_0; exact h)
      · exact Or.inl (by unfold L28_0; exact h)
    · have hx : s[k]? = some (s.getD k 0) := get_some (by omega)
      have w2 : IntKind.i64.wrap ((k : Int) + 1) = ((k + 1 : Nat) : Int) := wrap_nat (n := k + 1) (by omega)
      generalize s.getD k 0 = v at *
      simp -implicitDefEqProofs only [f28_0, f28_0_0, asI_i, asI4_i, asN_n, asL_l, asB_b, asE_nil, Bool.cond_decide, Bool.cond_not, if_pos (show (k : Int) < 4 by omega), if_pos (show (0 : Int) ≤ k ∧ (k : Int) < 4 by omega), Int.toNat_natCast, hx, optK_some, w2]
      (repeat' split) <;> first | exact Or.inl rfl | exact Or.inr rfl
    · simp -implicitDefEqProofs only [f28_0, f28_0_0, asI_i, asI4_i, asN_n, asL_l, asB_b, asE_nil, Bool.cond_decide, Bool.cond_not, if_neg (show ¬ ((4 : Nat) : Int) < 4 by omega)]
  have ht : List.take 4 s = s := List.take_of_length_le (by omega)
  rcases hl with hl | hl
  · exact ⟨true, by simp -implicitDefEqProofs only [g28, g28_0, asI_i, asI4_i, asN_n, asL_l, asB_b, asE_nil, Bool.cond_decide, Bool.cond_not, if_pos (show 4 ≤ s.length by omega), ht, hl, altK_0]⟩
  · exact ⟨false, by simp -implicitDefEqProofs only [g28, g28_0, asI_i, asI4_i, asN_n, asL_l, asB_b, asE_nil, Bool.cond_decide, Bool.cond_not, if_pos (show 4 ≤ s.length by omega), ht, hl, altK_1]⟩
theorem cost_N (s : List Int) (hs : s.length = 4) : g30 (0, [.l s]) = some (0, [.i (cK s 4)]) := by
  have hl : L30_0 (0, [.i 0, .l s, .i 0, .l s]) = some (0, [.i (cK s 4), .l s]) := by
    refine loopL_run (m := 1) (f := f30_0) (fun k => (0, [.i (cK s k), .l s, .i k, .l s])) 4 (fun k hk => ⟨?_, by show 0 < 1; omega⟩) ?_ (by omega)
    · have hx : s[k]? = some (s.getD k 0) := get_some (by omega)
      have w2 : IntKind.i64.wrap ((k : Int) + 1) = ((k + 1 : Nat) : Int) := wrap_nat (n := k + 1) (by omega)
      have e : cK s (k + 1) = IntKind.i64.wrap (cK s k + IntKind.i64.wrap (4 * s.getD k 0)) := rfl
      rw [e]
      generalize s.getD k 0 = v at *
      generalize cK s k = u at *
      simp -implicitDefEqProofs only [f30_0, f30_0_0, asI_i, asI4_i, asN_n, asL_l, asB_b, asE_nil, Bool.cond_decide, Bool.cond_not, if_pos (show (k : Int) < 4 by omega), if_pos (show (0 : Int) ≤ k ∧ (k : Int) < 4 by omega), Int.toNat_natCast, hx, optK_some, w2]
    · simp -implicitDefEqProofs only [f30_0, f30_0_0, asI_i, asI4_i, asN_n, asL_l, asB_b, asE_nil, Bool.cond_decide, Bool.cond_not, if_neg (show ¬ ((4 : Nat) : Int) < 4 by omega)]
  have ht : List.take 4 s = s := List.take_of_length_le (by omega)
  simp -implicitDefEqProofs only [g30, g30_0, asI_i, asI4_i, asN_n, asL_l, asB_b, asE_nil, Bool.cond_decide, Bool.cond_not, if_pos (show 4 ≤ s.length by omega), ht, hl, altK_0]
theorem tones_N : ∃ b, g27 (0, []) = some (0, [.b b]) := by
  have h2 : L27_0 (0, [.i 0, .i 0]) = some (0, []) := loopL_last (m := 1) (f := f27_0) (j := 0) (by simp -implicitDefEqProofs only [f27_0, f27_0_0, asI_i, asI4_i, asN_n, asL_l, asB_b, asE_nil, Bool.cond_decide, Bool.cond_not, if_neg (Int.lt_irrefl _)])
  exact ⟨true, by simp -implicitDefEqProofs only [g27, g27_0, asI_i, asI4_i, asN_n, asL_l, asB_b, asE_nil, Bool.cond_decide, Bool.cond_not, h2, altK_0]⟩
theorem in0_N (t a0 a1 a2 a3 a5 a6 a7 a8 a9 a10 a11 a12 a13 a14 a15 a16 a17 a18 a19 a20 a21 a22 a23 a24 a25 a26 a27 a28 : Int) : L20_0 (0, [.i t, .i a9, .i a10, .i a11, .i a12, .i a0, .i a1, .i a2, .i a3, .i a5, .i a6, .i a7, .i a8, .i a9, .i a10, .i a11, .i a12, .i a13, .i a14, .i a15, .i a16, .i a17, .i a18, .i a19, .i a20, .i a21, .i a22, .i a23, .i a24, .i a25, .i a26, .i a27, .i a28]) = some (0, [.i a0, .i a1, .i a2, .i a3, .i a5, .i a6, .i a7, .i a8, .i a9, .i a10, .i a11, .i a12, .i a13, .i a14, .i a15, .i a16, .i a17, .i a18, .i a19, .i a20, .i a21, .i a22, .i a23, .i a24, .i a25, .i a26, .i a27, .i a28]) ∨ L20_0 (0, [.i t, .i a9, .i a10, .i a11, .i a12, .i a0, .i a1, .i a2, .i a3, .i a5, .i a6, .i a7, .i a8, .i a9, .i a10, .i a11, .i a12, .i a13, .i a14, .i a15, .i a16, .i a17, .i a18, .i a19, .i a20, .i a21, .i a22, .i a23, .i a24, .i a25, .i a26, .i a27, .i a28]) = some (1, [.i a9, .i a10, .i a11, .i a12, .i a0, .i a1, .i a2, .i a3, .i a5, .i a6, .i a7, .i a8, .i a9, .i a10, .i a11, .i a12, .i a13, .i a14, .i a15, .i a16, .i a17, .i a18, .i a19, .i a20, .i a21, .i a22, .i a23, .i a24, .i a25, .i a26, .i a27, .i a28]) := by
  have := loop_chain (m := 20) (f := f20_0) (fun k => (0 + k, [.i t, .i a9, .i a10, .i a11, .i a12, .i a0, .i a1, .i a2, .i a3, .i a5, .i a6, .i a7, .i a8, .i a9, .i a10, .i a11, .i a12, .i a13, .i a14, .i a15, .i a16, .i a17, .i a18, .i a19, .i a20, .i a21, .i a22, .i a23, .i a24, .i a25, .i a26, .i a27, .i a28])) 4 (ja := 0) (jb := 1) (ra := [.i a0, .i a1, .i a2, .i a3, .i a5, .i a6, .i a7, .i a8, .i a9, .i a10, .i a11, .i a12, .i a13, .i a14, .i a15, .i a16, .i a17, .i a18, .i a19, .i a20, .i a21, .i a22, .i a23, .i a24, .i a25, .i a26, .i a27, .i a28]) (rb := [.i a9, .i a10, .i a11, .i a12, .i a0, .i a1, .i a2, .i a3, .i a5, .i a6, .i a7, .i a8, .i a9, .i a10, .i a11, .i a12, .i a13, .i a14, .i a15, .i a16, .i a17, .i a18, .i a19, .i a20, .i a21, .i a22, .i a23, .i a24, .i a25, .i a26, .i a27, .i a28]) (fun k hk => by show 0 + k < 20; omega) (fun k hk => ?_) ?_ (by omega)
  · unfold L20_0; exact this
  · match k, hk with
    | 0, _ =>
      obtain ⟨b, hb⟩ := fits_N a13 t
      show f20_0 (0, [.i t, .i a9, .i a10, .i a11, .i a12, .i a0, .i a1, .i a2, .i a3, .i a5, .i a6, .i a7, .i a8, .i a9, .i a10, .i a11, .i a12, .i a13, .i a14, .i a15, .i a16, .i a17, .i a18, .i a19, .i a20, .i a21, .i a22, .i a23, .i a24, .i a25, .i a26, .i a27, .i a28]) = some (1, [.i t, .i a9, .i a10, .i a11, .i a12, .i a0, .i a1, .i a2, .i a3, .i a5, .i a6, .i a7, .i a8, .i a9, .i a10, .i a11, .i a12, .i a13, .i a14, .i a15, .i a16, .i a17, .i a18, .i a19, .i a20, .i a21, .i a22, .i a23, .i a24, .i a25, .i a26, .i a27, .i a28]) ∨ f20_0 (0, [.i t, .i a9, .i a10, .i a11, .i a12, .i a0, .i a1, .i a2, .i a3, .i a5, .i a6, .i a7, .i a8, .i a9, .i a10, .i a11, .i a12, .i a13, .i a14, .i a15, .i a16, .i a17, .i a18, .i a19, .i a20, .i a21, .i a22, .i a23, .i a24, .i a25, .i a26, .i a27, .i a28]) = _
      simp -implicitDefEqProofs only [f20_0, f20_0_0, asI_i, asI4_i, asN_n, asL_l, asB_b, asE_nil, Bool.cond_decide, Bool.cond_not, hb, altK_0]
      cases b
      · exact Or.inr rfl
      · exact Or.inl rfl
    | 1, _ =>
      obtain ⟨b, hb⟩ := fits_N a14 t
      show f20_0 (1, [.i t, .i a9, .i a10, .i a11, .i a12, .i a0, .i a1, .i a2, .i a3, .i a5, .i a6, .i a7, .i a8, .i a9, .i a10, .i a11, .i a12, .i a13, .i a14, .i a15, .i a16, .i a17, .i a18, .i a19, .i a20, .i a21, .i a22, .i a23, .i a24, .i a25, .i a26, .i a27, .i a28]) = some (2, [.i t, .i a9, .i a10, .i a11, .i a12, .i a0, .i a1, .i a2, .i a3, .i a5, .i a6, .i a7, .i a8, .i a9, .i a10, .i a11, .i a12, .i a13, .i a14, .i a15, .i a16, .i a17, .i a18, .i a19, .i a20, .i a21, .i a22, .i a23, .i a24, .i a25, .i a26, .i a27, .i a28]) ∨ f20_0 (1, [.i t, .i a9, .i a10, .i a11, .i a12, .i a0, .i a1, .i a2, .i a3, .i a5, .i a6, .i a7, .i a8, .i a9, .i a10, .i a11, .i a12, .i a13, .i a14, .i a15, .i a16, .i a17, .i a18, .i a19, .i a20, .i a21, .i a22, .i a23, .i a24, .i a25, .i a26, .i a27, .i a28]) = _
      simp -implicitDefEqProofs only [f20_0, f20_0_1, asI_i, asI4_i, asN_n, asL_l, asB_b, asE_nil, Bool.cond_decide, Bool.cond_not, hb, altK_0]
      cases b
      · exact Or.inr rfl
      · exact Or.inl rfl
    | 2, _ =>
      obtain ⟨b, hb⟩ := fits_N a15 t
      show f20_0 (2, [.i t, .i a9, .i a10, .i a11, .i a12, .i a0, .i a1, .i a2, .i a3, .i a5, .i a6, .i a7, .i a8, .i a9, .i a10, .i a11, .i a12, .i a13, .i a14, .i a15, .i a16, .i a17, .i a18, .i a19, .i a20, .i a21, .i a22, .i a23, .i a24, .i a25, .i a26, .i a27, .i a28]) = some (3, [.i t, .i a9, .i a10, .i a11, .i a12, .i a0, .i a1, .i a2, .i a3, .i a5, .i a6, .i a7, .i a8, .i a9, .i a10, .i a11, .i a12, .i a13, .i a14, .i a15, .i a16, .i a17, .i a18, .i a19, .i a20, .i a21, .i a22, .i a23, .i a24, .i a25, .i a26, .i a27, .i a28]) ∨ f20_0 (2, [.i t, .i a9, .i a10, .i a11, .i a12, .i a0, .i a1, .i a2, .i a3, .i a5, .i a6, .i a7, .i a8, .i a9, .i a10, .i a11, .i a12, .i a13, .i a14, .i a15, .i a16, .i a17, .i a18, .i a19, .i a20, .i a21, .i a22, .i a23, .i a24, .i a25, .i a26, .i a27, .i a28]) = _
      simp -implicitDefEqProofs only [f20_0, f20_0_2, asI_i, asI4_i, asN_n, asL_l, asB_b, asE_nil, Bool.cond_decide, Bool.cond_not, hb, altK_0]
      cases b
      · exact Or.inr rfl
      · exact Or.inl rfl
    | 3, _ =>
      obtain ⟨b, hb⟩ := fits_N a16 t
      show f20_0 (3, [.i t, .i a9, .i a10, .i a11, .i a12, .i a0, .i a1, .i a2, .i a3, .i a5, .i a6, .i a7, .i a8, .i a9, .i a10, .i a11, .i a12, .i a13, .i a14, .i a15, .i a16, .i a17, .i a18, .i a19, .i a20, .i a21, .i a22, .i a23, .i a24, .i a25, .i a26, .i a27, .i a28]) = some (4, [.i t, .i a9, .i a10, .i a11, .i a12, .i a0, .i a1, .i a2, .i a3, .i a5, .i a6, .i a7, .i a8, .i a9, .i a10, .i a11, .i a12, .i a13, .i a14, .i a15, .i a16, .i a17, .i a18, .i a19, .i a20, .i a21, .i a22, .i a23, .i a24, .i a25, .i a26, .i a27, .i a28]) ∨ f20_0 (3, [.i t, .i a9, .i a10, .i a11, .i a12, .i a0, .i a1, .i a2, .i a3, .i a5, .i a6, .i a7, .i a8, .i a9, .i a10, .i a11, .i a12, .i a13, .i a14, .i a15, .i a16, .i a17, .i a18, .i a19, .i a20, .i a21, .i a22, .i a23, .i a24, .i a25, .i a26, .i a27, .i a28]) = _
      simp -implicitDefEqProofs only [f20_0, f20_0_3, asI_i, asI4_i, asN_n, asL_l, asB_b, asE_nil, Bool.cond_decide, Bool.cond_not, hb, altK_0]
      cases b
      · exact Or.inr rfl
      · exact Or.inl rfl
    | k + 4, hk => omega
  · show f20_0 (4, [.i t, .i a9, .i a10, .i a11, .i a12, .i a0, .i a1, .i a2, .i a3, .i a5, .i a6, .i a7, .i a8, .i a9, .i a10, .i a11, .i a12, .i a13, .i a14, .i a15, .i a16, .i a17, .i a18, .i a19, .i a20, .i a21, .i a22, .i a23, .i a24, .i a25, .i a26, .i a27, .i a28]) = _
    simp -implicitDefEqProofs only [f20_0, f20_0_4, asI_i, asI4_i, asN_n, asL_l, asB_b, asE_nil, Bool.cond_decide, Bool.cond_not]
theorem in1_N (t a0 a1 a2 a3 a5 a6 a7 a8 a9 a10 a11 a12 a13 a14 a15 a16 a17 a18 a19 a20 a21 a22 a23 a24 a25 a26 a27 a28 : Int) : L20_0 (5, [.i t, .i a9, .i a10, .i a11, .i a12, .i a0, .i a1, .i a2, .i a3, .i a5, .i a6, .i a7, .i a8, .i a9, .i a10, .i a11, .i a12, .i a13, .i a14, .i a15, .i a16, .i a17, .i a18, .i a19, .i a20, .i a21, .i a22, .i a23, .i a24, .i a25, .i a26, .i a27, .i a28]) = some (0, [.i a0, .i a1, .i a2, .i a3, .i a5, .i a6, .i a7, .i a8, .i a9, .i a10, .i a11, .i a12, .i a13, .i a14, .i a15, .i a16, .i a17, .i a18, .i a19, .i a20, .i a21, .i a22, .i a23, .i a24, .i a25, .i a26, .i a27, .i a28]) ∨ L20_0 (5, [.i t, .i a9, .i a10, .i a11, .i a12, .i a0, .i a1, .i a2, .i a3, .i a5, .i a6, .i a7, .i a8, .i a9, .i a10, .i a11, .i a12, .i a13, .i a14, .i a15, .i a16, .i a17, .i a18, .i a19, .i a20, .i a21, .i a22, .i a23, .i a24, .i a25, .i a26, .i a27, .i a28]) = some (2, [.i a9, .i a10, .i a11, .i a12, .i a0, .i a1, .i a2, .i a3, .i a5, .i a6, .i a7, .i a8, .i a9, .i a10, .i a11, .i a12, .i a13, .i a14, .i a15, .i a16, .i a17, .i a18, .i a19, .i a20, .i a21, .i a22, .i a23, .i a24, .i a25, .i a26, .i a27, .i a28]) := by
  have := loop_chain (m := 20) (f := f20_0) (fun k => (5 + k, [.i t, .i a9, .i a10, .i a11, .i a12, .i a0, .i a1, .i a2, .i a3, .i a5, .i a6, .i a7, .i a8, .i a9, .i a10, .i a11, .i a12, .i a13, .i a14, .i a15, .i a16, .i a17, .i a18, .i a19, .i a20, .i a21, .i a22, .i a23, .i a24, .i a25, .i a26, .i a27, .i a28])) 4 (ja := 0) (jb := 2) (ra := [.i a0, .i a1, .i a2, .i a3, .i a5, .i a6, .i a7, .i a8, .i a9, .i a10, .i a11, .i a12, .i a13, .i a14, .i a15, .i a16, .i a17, .i a18, .i a19, .i a20, .i a21, .i a22, .i a23, .i a24, .i a25, .i a26, .i a27, .i a28]) (rb := [.i a9, .i a10, .i a11, .i a12, .i a0, .i a1, .i a2, .i a3, .i a5, .i a6, .i a7, .i a8, .i a9, .i a10, .i a11, .i a12, .i a13, .i a14, .i a15, .i a16, .i a17, .i a18, .i a19, .i a20, .i a21, .i a22, .i a23, .i a24, .i a25, .i a26, .i a27, .i a28]) (fun k hk => by show 5 + k < 20; omega) (fun k hk => ?_) ?_ (by omega)
  · unfold L20_0; exact this
  · match k, hk with
    | 0, _ =>
      obtain ⟨b, hb⟩ := fits_N a17 t
      show f20_0 (5, [.i t, .i a9, .i a10, .i a11, .i a12, .i a0, .i a1, .i a2, .i a3, .i a5, .i a6, .i a7, .i a8, .i a9, .i a10, .i a11, .i a12, .i a13, .i a14, .i a15, .i a16, .i a17, .i a18, .i a19, .i a20, .i a21, .i a22, .i a23, .i a24, .i a25, .i a26, .i a27, .i a28]) = some (6, [.i t, .i a9, .i a10, .i a11, .i a12, .i a0, .i a1, .i a2, .i a3, .i a5, .i a6, .i a7, .i a8, .i a9, .i a10, .i a11, .i a12, .i a13, .i a14, .i a15, .i a16, .i a17, .i a18, .i a19, .i a20, .i a21, .i a22, .i a23, .i a24, .i a25, .i a26, .i a27, .i a28]) ∨ f20_0 (5, [.i t, .i a9, .i a10, .i a11, .i a12, .i a0, .i a1, .i a2, .i a3, .i a5, .i a6, .i a7, .i a8, .i a9, .i a10, .i a11, .i a12, .i a13, .i a14, .i a15, .i a16, .i a17, .i a18, .i a19, .i a20, .i a21, .i a22, .i a23, .i a24, .i a25, .i a26, .i a27, .i a28]) = _
      simp -implicitDefEqProofs only [f20_0, f20_0_5, asI_i, asI4_i, asN_n, asL_l, asB_b, asE_nil, Bool.cond_decide, Bool.cond_not, hb, altK_0]
      cases b
      · exact Or.inr rfl
      · exact Or.inl rfl
    | 1, _ =>
      obtain ⟨b, hb⟩ := fits_N a18 t
      show f20_0 (6, [.i t, .i a9, .i a10, .i a11, .i a12, .i a0, .i a1, .i a2, .i a3, .i a5, .i a6, .i a7, .i a8, .i a9, .i a10, .i a11, .i a12, .i a13, .i a14, .i a15, .i a16, .i a17, .i a18, .i a19, .i a20, .i a21, .i a22, .i a23, .i a24, .i a25, .i a26, .i a27, .i a28]) = some (7, [.i t, .i a9, .i a10, .i a11, .i a12, .i a0, .i a1, .i a2, .i a3, .i a5, .i a6, .i a7, .i a8, .i a9, .i a10, .i a11, .i a12, .i a13, .i a14, .i a15, .i a16, .i a17, .i a18, .i a19, .i a20, .i a21, .i a22, .i a23, .i a24, .i a25, .i a26, .i a27, .i a28]) ∨ f20_0 (6, [.i t, .i a9, .i a10, .i a11, .i a12, .i a0, .i a1, .i a2, .i a3, .i a5, .i a6, .i a7, .i a8, .i a9, .i a10, .i a11, .i a12, .i a13, .i a14, .i a15, .i a16, .i a17, .i a18, .i a19, .i a20, .i a21, .i a22, .i a23, .i a24, .i a25, .i a26, .i a27, .i a28]) = _
      simp -implicitDefEqProofs only [f20_0, f20_0_6, asI_i, asI4_i, asN_n, asL_l, asB_b, asE_nil, Bool.cond_decide, Bool.cond_not, hb, altK_0]
      cases b
      · exact Or.inr rfl
      · exact Or.inl rfl
    | 2, _ =>
      obtain ⟨b, hb⟩ := fits_N a19 t
      show f20_0 (7, [.i t, .i a9, .i a10, .i a11, .i a12, .i a0, .i a1, .i a2, .i a3, .i a5, .i a6, .i a7, .i a8, .i a9, .i a10, .i a11, .i a12, .i a13, .i a14, .i a15, .i a16, .i a17, .i a18, .i a19, .i a20, .i a21, .i a22, .i a23, .i a24, .i a25, .i a26, .i a27, .i a28]) = some (8, [.i t, .i a9, .i a10, .i a11, .i a12, .i a0, .i a1, .i a2, .i a3, .i a5, .i a6, .i a7, .i a8, .i a9, .i a10, .i a11, .i a12, .i a13, .i a14, .i a15, .i a16, .i a17, .i a18, .i a19, .i a20, .i a21, .i a22, .i a23, .i a24, .i a25, .i a26, .i a27, .i a28]) ∨ f20_0 (7, [.i t, .i a9, .i a10, .i a11, .i a12, .i a0, .i a1, .i a2, .i a3, .i a5, .i a6, .i a7, .i a8, .i a9, .i a10, .i a11, .i a12, .i a13, .i a14, .i a15, .i a16, .i a17, .i a18, .i a19, .i a20, .i a21, .i a22, .i a23, .i a24, .i a25, .i a26, .i a27, .i a28]) = _
      simp -implicitDefEqProofs only [f20_0, f20_0_7, asI_i, asI4_i, asN_n, asL_l, asB_b, asE_nil, Bool.cond_decide, Bool.cond_not, hb, altK_0]
      cases b
      · exact Or.inr rfl
      · exact Or.inl rfl
    | 3, _ =>
      obtain ⟨b, hb⟩ := fits_N a20 t
      show f20_0 (8, [.i t, .i a9, .i a10, .i a11, .i a12, .i a0, .i a1, .i a2, .i a3, .i a5, .i a6, .i a7, .i a8, .i a9, .i a10, .i a11, .i a12, .i a13, .i a14, .i a15, .i a16, .i a17, .i a18, .i a19, .i a20, .i a21, .i a22, .i a23, .i a24, .i a25, .i a26, .i a27, .i a28]) = some (9, [.i t, .i a9, .i a10, .i a11, .i a12, .i a0, .i a1, .i a2, .i a3, .i a5, .i a6, .i a7, .i a8, .i a9, .i a10, .i a11, .i a12, .i a13, .i a14, .i a15, .i a16, .i a17, .i a18, .i a19, .i a20, .i a21, .i a22, .i a23, .i a24, .i a25, .i a26, .i a27, .i a28]) ∨ f20_0 (8, [.i t, .i a9, .i a10, .i a11, .i a12, .i a0, .i a1, .i a2, .i a3, .i a5, .i a6, .i a7, .i a8, .i a9, .i a10, .i a11, .i a12, .i a13, .i a14, .i a15, .i a16, .i a17, .i a18, .i a19, .i a20, .i a21, .i a22, .i a23, .i a24, .i a25, .i a26, .i a27, .i a28]) = _
      simp -implicitDefEqProofs only [f20_0, f20_0_8, asI_i, asI4_i, asN_n, asL_l, asB_b, asE_nil, Bool.cond_decide, Bool.cond_not, hb, altK_0]
      cases b
      · exact Or.inr rfl
      · exact Or.inl rfl
    | k + 4, hk => omega
  · show f20_0 (9, [.i t, .i a9, .i a10, .i a11, .i a12, .i a0, .i a1, .i a2, .i a3, .i a5, .i a6, .i a7, .i a8, .i a9, .i a10, .i a11, .i a12, .i a13, .i a14, .i a15, .i a16, .i a17, .i a18, .i a19, .i a20, .i a21, .i a22, .i a23, .i a24, .i a25, .i a26, .i a27, .i a28]) = _
    simp -implicitDefEqProofs only [f20_0, f20_0_9, asI_i, asI4_i, asN_n, asL_l, asB_b, asE_nil, Bool.cond_decide, Bool.cond_not]
theorem in2_N (t a0 a1 a2 a3 a5 a6 a7 a8 a9 a10 a11 a12 a13 a14 a15 a16 a17 a18 a19 a20 a21 a22 a23 a24 a25 a26 a27 a28 : Int) : L20_0 (10, [.i t, .i a9, .i a10, .i a11, .i a12, .i a0, .i a1, .i a2, .i a3, .i a5, .i a6, .i a7, .i a8, .i a9, .i a10, .i a11, .i a12, .i a13, .i a14, .i a15, .i a16, .i a17, .i a18, .i a19, .i a20, .i a21, .i a22, .i a23, .i a24, .i a25, .i a26, .i a27, .i a28]) = some (0, [.i a0, .i a1, .i a2, .i a3, .i a5, .i a6, .i a7, .i a8, .i a9, .i a10, .i a11, .i a12, .i a13, .i a14, .i a15, .i a16, .i a17, .i a18, .i a19, .i a20, .i a21, .i a22, .i a23, .i a24, .i a25, .i a26, .i a27, .i a28]) ∨ L20_0 (10, [.i t, .i a9, .i a10, .i a11, .i a12, .i a0, .i a1, .i a2, .i a3, .i a5, .i a6, .i a7, .i a8, .i a9, .i a10, .i a11, .i a12, .i a13, .i a14, .i a15, .i a16, .i a17, .i a18, .i a19, .i a20, .i a21, .i a22, .i a23, .i a24, .i a25, .i a26, .i a27, .i a28]) = some (3, [.i a9, .i a10, .i a11, .i a12, .i a0, .i a1, .i a2, .i a3, .i a5, .i a6, .i a7, .i a8, .i a9, .i a10, .i a11, .i a12, .i a13, .i a14, .i a15, .i a16, .i a17, .i a18, .i a19, .i a20, .i a21, .i a22, .i a23, .i a24, .i a25, .i a26, .i a27, .i a28]) := by
  have := loop_chain (m := 20) (f := f20_0) (fun k => (10 + k, [.i t, .i a9, .i a10, .i a11, .i a12, .i a0, .i a1, .i a2, .i a3, .i a5, .i a6, .i a7, .i a8, .i a9, .i a10, .i a11, .i a12, .i a13, .i a14, .i a15, .i a16, .i a17, .i a18, .i a19, .i a20, .i a21, .i a22, .i a23, .i a24, .i a25, .i a26, .i a27, .i a28])) 4 (ja := 0) (jb := 3) (ra := [.i a0, .i a1, .i a2, .i a3, .i a5, .i a6, .i a7, .i a8, .i a9, .i a10, .i a11, .i a12, .i a13, .i a14, .i a15, .i a16, .i a17, .i a18, .i a19, .i a20, .i a21, .i a22, .i a23, .i a24, .i a25, .i a26, .i a27, .i a28]) (rb := [.i a9, .i a10, .i a11, .i a12, .i a0, .i a1, .i a2, .i a3, .i a5, .i a6, .i a7, .i a8, .i a9, .i a10, .i a11, .i a12, .i a13, .i a14, .i a15, .i a16, .i a17, .i a18, .i a19, .i a20, .i a21, .i a22, .i a23, .i a24, .i a25, .i a26, .i a27, .i a28]) (fun k hk => by show 10 + k < 20; omega) (fun k hk => ?_) ?_ (by omega)
  · unfold L20_0; exact this
  · match k, hk with
    | 0, _ =>
      obtain ⟨b, hb⟩ := fits_N a21 t
      show f20_0 (10, [.i t, .i a9, .i a10, .i a11, .i a12, .i a0, .i a1, .i a2, .i a3, .i a5, .i a6, .i a7, .i a8, .i a9, .i a10, .i a11, .i a12, .i a13, .i a14, .i a15, .i a16, .i a17, .i a18, .i a19, .i a20, .i a21, .i a22, .i a23, .i a24, .i a25, .i a26, .i a27, .i a28]) = some (11, [.i t, .i a9, .i a10, .i a11, .i a12, .i a0, .i a1, .i a2, .i a3, .i a5, .i a6, .i a7, .i a8, .i a9, .i a10, .i a11, .i a12, .i a13, .i a14, .i a15, .i a16, .i a17, .i a18, .i a19, .i a20, .i a21, .i a22, .i a23, .i a24, .i a25, .i a26, .i a27, .i a28]) ∨ f20_0 (10, [.i t, .i a9, .i a10, .i a11, .i a12, .i a0, .i a1, .i a2, .i a3, .i a5, .i a6, .i a7, .i a8, .i a9, .i a10, .i a11, .i a12, .i a13, .i a14, .i a15, .i a16, .i a17, .i a18, .i a19, .i a20, .i a21, .i a22, .i a23, .i a24, .i a25, .i a26, .i a27, .i a28]) = _
      simp -implicitDefEqProofs only [f20_0, f20_0_10, asI_i, asI4_i, asN_n, asL_l, asB_b, asE_nil, Bool.cond_decide, Bool.cond_not, hb, altK_0]
      cases b
      · exact Or.inr rfl
      · exact Or.inl rfl
    | 1, _ =>
      obtain ⟨b, hb⟩ := fits_N a22 t
      show f20_0 (11, [.i t, .i a9, .i a10, .i a11, .i a12, .i a0, .i a1, .i a2, .i a3, .i a5, .i a6, .i a7, .i a8, .i a9, .i a10, .i a11, .i a12, .i a13, .i a14, .i a15, .i a16, .i a17, .i a18, .i a19, .i a20, .i a21, .i a22, .i a23, .i a24, .i a25, .i a26, .i a27, .i a28]) = some (12, [.i t, .i a9, .i a10, .i a11, .i a12, .i a0, .i a1, .i a2, .i a3, .i a5, .i a6, .i a7, .i a8, .i a9, .i a10, .i a11, .i a12, .i a13, .i a14, .i a15, .i a16, .i a17, .i a18, .i a19, .i a20, .i a21, .i a22, .i a23, .i a24, .i a25, .i a26, .i a27, .i a28]) ∨ f20_0 (11, [.i t, .i a9, .i a10, .i a11, .i a12, .i a0, .i a1, .i a2, .i a3, .i a5, .i a6, .i a7, .i a8, .i a9, .i a10, .i a11, .i a12, .i a13, .i a14, .i a15, .i a16, .i a17, .i a18, .i a19, .i a20, .i a21, .i a22, .i a23, .i a24, .i a25, .i a26, .i a27, .i a28]) = _
      simp -implicitDefEqProofs only [f20_0, f20_0_11, asI_i, asI4_i, asN_n, asL_l, asB_b, asE_nil, Bool.cond_decide, Bool.cond_not, hb, altK_0]
      cases b
      · exact Or.inr rfl
      · exact Or.inl rfl
    | 2, _ =>
      obtain ⟨b, hb⟩ := fits_N a23 t
      show f20_0 (12, [.i t, .i a9, .i a10, .i a11, .i a12, .i a0, .i a1, .i a2, .i a3, .i a5, .i a6, .i a7, .i a8, .i a9, .i a10, .i a11, .i a12, .i a13, .i a14, .i a15, .i a16, .i a17, .i a18, .i a19, .i a20, .i a21, .i a22, .i a23, .i a24, .i a25, .i a26, .i a27, .i a28]) = some (13, [.i t, .i a9, .i a10, .i a11, .i a12, .i a0, .i a1, .i a2, .i a3, .i a5, .i a6, .i a7, .i a8, .i a9, .i a10, .i a11, .i a12, .i a13, .i a14, .i a15, .i a16, .i a17, .i a18, .i a19, .i a20, .i a21, .i a22, .i a23, .i a24, .i a25, .i a26, .i a27, .i a28]) ∨ f20_0 (12, [.i t, .i a9, .i a10, .i a11, .i a12, .i a0, .i a1, .i a2, .i a3, .i a5, .i a6, .i a7, .i a8, .i a9, .i a10, .i a11, .i a12, .i a13, .i a14, .i a15, .i a16, .i a17, .i a18, .i a19, .i a20, .i a21, .i a22, .i a23, .i a24, .i a25, .i a26, .i a27, .i a28]) = _
      simp -implicitDefEqProofs only [f20_0, f20_0_12, asI_i, asI4_i, asN_n, asL_l, asB_b, asE_nil, Bool.cond_decide, Bool.cond_not, hb, altK_0]
      cases b
      · exact Or.inr rfl
      · exact Or.inl rfl
    | 3, _ =>
      obtain ⟨b, hb⟩ := fits_N a24 t
      show f20_0 (13, [.i t, .i a9, .i a10, .i a11, .i a12, .i a0, .i a1, .i a2, .i a3, .i a5, .i a6, .i a7, .i a8, .i a9, .i a10, .i a11, .i a12, .i a13, .i a14, .i a15, .i a16, .i a17, .i a18, .i a19, .i a20, .i a21, .i a22, .i a23, .i a24, .i a25, .i a26, .i a27, .i a28]) = some (14, [.i t, .i a9, .i a10, .i a11, .i a12, .i a0, .i a1, .i a2, .i a3, .i a5, .i a6, .i a7, .i a8, .i a9, .i a10, .i a11, .i a12, .i a13, .i a14, .i a15, .i a16, .i a17, .i a18, .i a19, .i a20, .i a21, .i a22, .i a23, .i a24, .i a25, .i a26, .i a27, .i a28]) ∨ f20_0 (13, [.i t, .i a9, .i a10, .i a11, .i a12, .i a0, .i a1, .i a2, .i a3, .i a5, .i a6, .i a7, .i a8, .i a9, .i a10, .i a11, .i a12, .i a13, .i a14, .i a15, .i a16, .i a17, .i a18, .i a19, .i a20, .i a21, .i a22, .i a23, .i a24, .i a25, .i a26, .i a27, .i a28]) = _
      simp -implicitDefEqProofs only [f20_0, f20_0_13, asI_i, asI4_i, asN_n, asL_l, asB_b, asE_nil, Bool.cond_decide, Bool.cond_not, hb, altK_0]
      cases b
      · exact Or.inr rfl
      · exact Or.inl rfl
    | k + 4, hk => omega
  · show f20_0 (14, [.i t, .i a9, .i a10, .i a11, .i a12, .i a0, .i a1, .i a2, .i a3, .i a5, .i a6, .i a7, .i a8, .i a9, .i a10, .i a11, .i a12, .i a13, .i a14, .i a15, .i a16, .i a17, .i a18, .i a19, .i a20, .i a21, .i a22, .i a23, .i a24, .i a25, .i a26, .i a27, .i a28]) = _
    simp -implicitDefEqProofs only [f20_0, f20_0_14, asI_i, asI4_i, asN_n, asL_l, asB_b, asE_nil, Bool.cond_decide, Bool.cond_not]
theorem in3_N (t a0 a1 a2 a3 a5 a6 a7 a8 a9 a10 a11 a12 a13 a14 a15 a16 a17 a18 a19 a20 a21 a22 a23 a24 a25 a26 a27 a28 : Int) : L20_0 (15, [.i t, .i a9, .i a10, .i a11, .i a12, .i a0, .i a1, .i a2, .i a3, .i a5, .i a6, .i a7, .i a8, .i a9, .i a10, .i a11, .i a12, .i a13, .i a14, .i a15, .i a16, .i a17, .i a18, .i a19, .i a20, .i a21, .i a22, .i a23, .i a24, .i a25, .i a26, .i a27, .i a28]) = some (0, [.i a0, .i a1, .i a2, .i a3, .i a5, .i a6, .i a7, .i a8, .i a9, .i a10, .i a11, .i a12, .i a13, .i a14, .i a15, .i a16, .i a17, .i a18, .i a19, .i a20, .i a21, .i a22, .i a23, .i a24, .i a25, .i a26, .i a27, .i a28]) ∨ L20_0 (15, [.i t, .i a9, .i a10, .i a11, .i a12, .i a0, .i a1, .i a2, .i a3, .i a5, .i a6, .i a7, .i a8, .i a9, .i a10, .i a11, .i a12, .i a13, .i a14, .i a15, .i a16, .i a17, .i a18, .i a19, .i a20, .i a21, .i a22, .i a23, .i a24, .i a25, .i a26, .i a27, .i a28]) = some (4, [.i a9, .i a10, .i a11, .i a12, .i a0, .i a1, .i a2, .i a3, .i a5, .i a6, .i a7, .i a8, .i a9, .i a10, .i a11, .i a12, .i a13, .i a14, .i a15, .i a16, .i a17, .i a18, .i a19, .i a20, .i a21, .i a22, .i a23, .i a24, .i a25, .i a26, .i a27, .i a28]) := by
  have := loop_chain (m := 20) (f := f20_0) (fun k => (15 + k, [.i t, .i a9, .i a10, .i a11, .i a12, .i a0, .i a1, .i a2, .i a3, .i a5, .i a6, .i a7, .i a8, .i a9, .i a10, .i a11, .i a12, .i a13, .i a14, .i a15, .i a16, .i a17, .i a18, .i a19, .i a20, .i a21, .i a22, .i a23, .i a24, .i a25, .i a26, .i a27, .i a28])) 4 (ja := 0) (jb := 4) (ra := [.i a0, .i a1, .i a2, .i a3, .i a5, .i a6, .i a7, .i a8, .i a9, .i a10, .i a11, .i a12, .i a13, .i a14, .i a15, .i a16, .i a17, .i a18, .i a19, .i a20, .i a21, .i a22, .i a23, .i a24, .i a25, .i a26, .i a27, .i a28]) (rb := [.i a9, .i a10, .i a11, .i a12, .i a0, .i a1, .i a2, .i a3, .i a5, .i a6, .i a7, .i a8, .i a9, .i a10, .i a11, .i a12, .i a13, .i a14, .i a15, .i a16, .i a17, .i a18, .i a19, .i a20, .i a21, .i a22, .i a23, .i a24, .i a25, .i a26, .i a27, .i a28]) (fun k hk => by show 15 + k < 20; omega) (fun k hk => ?_) ?_ (by omega)
  · unfold L20_0; exact this
  · match k, hk with
    | 0, _ =>
      obtain ⟨b, hb⟩ := fits_N a25 t
      show f20_0 (15, [.i t, .i a9, .i a10, .i a11, .i a12, .i a0, .i a1, .i a2, .i a3, .i a5, .i a6, .i a7, .i a8, .i a9, .i a10, .i a11, .i a12, .i a13, .i a14, .i a15, .i a16, .i a17, .i a18, .i a19, .i a20, .i a21, .i a22, .i a23, .i a24, .i a25, .i a26, .i a27, .i a28]) = some (16, [.i t, .i a9, .i a10, .i a11, .i a12, .i a0, .i a1, .i a2, .i a3, .i a5, .i a6, .i a7, .i a8, .i a9, .i a10, .i a11, .i a12, .i a13, .i a14, .i a15, .i a16, .i a17, .i a18, .i a19, .i a20, .i a21, .i a22, .i a23, .i a24, .i a25, .i a26, .i a27, .i a28]) ∨ f20_0 (15, [.i t, .i a9, .i a10, .i a11, .i a12, .i a0, .i a1, .i a2, .i a3, .i a5, .i a6, .i a7, .i a8, .i a9, .i a10, .i a11, .i a12, .i a13, .i a14, .i a15, .i a16, .i a17, .i a18, .i a19, .i a20, .i a21, .i a22, .i a23, .i a24, .i a25, .i a26, .i a27, .i a28]) = _
      simp -implicitDefEqProofs only [f20_0, f20_0_15, asI_i, asI4_i, asN_n, asL_l, asB_b, asE_nil, Bool.cond_decide, Bool.cond_not, hb, altK_0]
      cases b
      · exact Or.inr rfl
      · exact Or.inl rfl
    | 1, _ =>
      obtain ⟨b, hb⟩ := fits_N a26 t
      show f20_0 (16, [.i t, .i a9, .i a10, .i a11, .i a12, .i a0, .i a1, .i a2, .i a3, .i a5, .i a6, .i a7, .i a8, .i a9, .i a10, .i a11, .i a12, .i a13, .i a14, .i a15, .i a16, .i a17, .i a18, .i a19, .i a20, .i a21, .i a22, .i a23, .i a24, .i a25, .i a26, .i a27, .i a28]) = some (17, [.i t, .i a9, .i a10, .i a11, .i a12, .i a0, .i a1, .i a2, .i a3, .i a5, .i a6, .i a7, .i a8, .i a9, .i a10, .i a11, .i a12, .i a13, .i a14, .i a15, .i a16, .i a17, .i a18, .i a19, .i a20, .i a21, .i a22, .i a23, .i a24, .i a25, .i a26, .i a27, .i a28]) ∨ f20_0 (16, [.i t, .i a9, .i a10, .i a11, .i a12, .i a0, .i a1, .i a2, .i a3, .i a5, .i a6, .i a7, .i a8, .i a9, .i a10, .i a11, .i a12, .i a13, .i a14, .i a15, .i a16, .i a17, .i a18, .i a19, .i a20, .i a21, .i a22, .i a23, .i a24, .i a25, .i a26, .i a27, .i a28]) = _
      simp -implicitDefEqProofs only [f20_0, f20_0_16, asI_i, asI4_i, asN_n, asL_l, asB_b, asE_nil, Bool.cond_decide, Bool.cond_not, hb, altK_0]
      cases b
      · exact Or.inr rfl
      · exact Or.inl rfl
    | 2, _ =>
      obtain ⟨b, hb⟩ := fits_N a27 t
      show f20_0 (17, [.i t, .i a9, .i a10, .i a11, .i a12, .i a0, .i a1, .i a2, .i a3, .i a5, .i a6, .i a7, .i a8, .i a9, .i a10, .i a11, .i a12, .i a13, .i a14, .i a15, .i a16, .i a17, .i a18, .i a19, .i a20, .i a21, .i a22, .i a23, .i a24, .i a25, .i a26, .i a27, .i a28]) = some (18, [.i t, .i a9, .i a10, .i a11, .i a12, .i a0, .i a1, .i a2, .i a3, .i a5, .i a6, .i a7, .i a8, .i a9, .i a10, .i a11, .i a12, .i a13, .i a14, .i a15, .i a16, .i a17, .i a18, .i a19, .i a20, .i a21, .i a22, .i a23, .i a24, .i a25, .i a26, .i a27, .i a28]) ∨ f20_0 (17, [.i t, .i a9, .i a10, .i a11, .i a12, .i a0, .i a1, .i a2, .i a3, .i a5, .i a6, .i a7, .i a8, .i a9, .i a10, .i a11, .i a12, .i a13, .i a14, .i a15, .i a16, .i a17, .i a18, .i a19, .i a20, .i a21, .i a22, .i a23, .i a24, .i a25, .i a26, .i a27, .i a28]) = _
      simp -implicitDefEqProofs only [f20_0, f20_0_17, asI_i, asI4_i, asN_n, asL_l, asB_b, asE_nil, Bool.cond_decide, Bool.cond_not, hb, altK_0]
      cases b
      · exact Or.inr rfl
      · exact Or.inl rfl
    | 3, _ =>
      obtain ⟨b, hb⟩ := fits_N a28 t
      show f20_0 (18, [.i t, .i a9, .i a10, .i a11, .i a12, .i a0, .i a1, .i a2, .i a3, .i a5, .i a6, .i a7, .i a8, .i a9, .i a10, .i a11, .i a12, .i a13, .i a14, .i a15, .i a16, .i a17, .i a18, .i a19, .i a20, .i a21, .i a22, .i a23, .i a24, .i a25, .i a26, .i a27, .i a28]) = some (19, [.i t, .i a9, .i a10, .i a11, .i a12, .i a0, .i a1, .i a2, .i a3, .i a5, .i a6, .i a7, .i a8, .i a9, .i a10, .i a11, .i a12, .i a13, .i a14, .i a15, .i a16, .i a17, .i a18, .i a19, .i a20, .i a21, .i a22, .i a23, .i a24, .i a25, .i a26, .i a27, .i a28]) ∨ f20_0 (18, [.i t, .i a9, .i a10, .i a11, .i a12, .i a0, .i a1, .i a2, .i a3, .i a5, .i a6, .i a7, .i a8, .i a9, .i a10, .i a11, .i a12, .i a13, .i a14, .i a15, .i a16, .i a17, .i a18, .i a19, .i a20, .i a21, .i a22, .i a23, .i a24, .i a25, .i a26, .i a27, .i a28]) = _
      simp -implicitDefEqProofs only [f20_0, f20_0_18, asI_i, asI4_i, asN_n, asL_l, asB_b, asE_nil, Bool.cond_decide, Bool.cond_not, hb, altK_0]
      cases b
      · exact Or.inr rfl
      · exact Or.inl rfl
    | k + 4, hk => omega
  · show f20_0 (19, [.i t, .i a9, .i a10, .i a11, .i a12, .i a0, .i a1, .i a2, .i a3, .i a5, .i a6, .i a7, .i a8, .i a9, .i a10, .i a11, .i a12, .i a13, .i a14, .i a15, .i a16, .i a17, .i a18, .i a19, .i a20, .i a21, .i a22, .i a23, .i a24, .i a25, .i a26, .i a27, .i a28]) = _
    simp -implicitDefEqProofs only [f20_0, f20_0_19, asI_i, asI4_i, asN_n, asL_l, asB_b, asE_nil, Bool.cond_decide, Bool.cond_not]
theorem out_N (a0 a1 a2 a3 a5 a6 a7 a8 a9 a10 a11 a12 a13 a14 a15 a16 a17 a18 a19 a20 a21 a22 a23 a24 a25 a26 a27 a28 : Int) : L20_1 (0, [.i a9, .i a10, .i a11, .i a12, .i a0, .i a1, .i a2, .i a3, .i a5, .i a6, .i a7, .i a8, .i a9, .i a10, .i a11, .i a12, .i a13, .i a14, .i a15, .i a16, .i a17, .i a18, .i a19, .i a20, .i a21, .i a22, .i a23, .i a24, .i a25, .i a26, .i a27, .i a28]) = some (0, [.i a0, .i a1, .i a2, .i a3, .i a5, .i a6, .i a7, .i a8, .i a9, .i a10, .i a11, .i a12, .i a13, .i a14, .i a15, .i a16, .i a17, .i a18, .i a19, .i a20, .i a21, .i a22, .i a23, .i a24, .i a25, .i a26, .i a27, .i a28]) ∨ L20_1 (0, [.i a9, .i a10, .i a11, .i a12, .i a0, .i a1, .i a2, .i a3, .i a5, .i a6, .i a7, .i a8, .i a9, .i a10, .i a11, .i a12, .i a13, .i a14, .i a15, .i a16, .i a17, .i a18, .i a19, .i a20, .i a21, .i a22, .i a23, .i a24, .i a25, .i a26, .i a27, .i a28]) = some (1, [.i a0, .i a1, .i a2, .i a3, .i a5, .i a6, .i a7, .i a8, .i a9, .i a10, .i a11, .i a12, .i a13, .i a14, .i a15, .i a16, .i a17, .i a18, .i a19, .i a20, .i a21, .i a22, .i a23, .i a24, .i a25, .i a26, .i a27, .i a28]) := by
  have := loop_chain (m := 5) (f := f20_1) (fun k => (k, [.i a9, .i a10, .i a11, .i a12, .i a0, .i a1, .i a2, .i a3, .i a5, .i a6, .i a7, .i a8, .i a9, .i a10, .i a11, .i a12, .i a13, .i a14, .i a15, .i a16, .i a17, .i a18, .i a19, .i a20, .i a21, .i a22, .i a23, .i a24, .i a25, .i a26, .i a27, .i a28])) 4 (ja := 0) (jb := 1) (ra := [.i a0, .i a1, .i a2, .i a3, .i a5, .i a6, .i a7, .i a8, .i a9, .i a10, .i a11, .i a12, .i a13, .i a14, .i a15, .i a16, .i a17, .i a18, .i a19, .i a20, .i a21, .i a22, .i a23, .i a24, .i a25, .i a26, .i a27, .i a28]) (rb := [.i a0, .i a1, .i a2, .i a3, .i a5, .i a6, .i a7, .i a8, .i a9, .i a10, .i a11, .i a12, .i a13, .i a14, .i a15, .i a16, .i a17, .i a18, .i a19, .i a20, .i a21, .i a22, .i a23, .i a24, .i a25, .i a26, .i a27, .i a28]) (fun k hk => by show k < 5; omega) (fun k hk => ?_) ?_ (by omega)
  · unfold L20_1; exact this
  · match k, hk with
    | 0, _ =>
      show f20_1 (0, [.i a9, .i a10, .i a11, .i a12, .i a0, .i a1, .i a2, .i a3, .i a5, .i a6, .i a7, .i a8, .i a9, .i a10, .i a11, .i a12, .i a13, .i a14, .i a15, .i a16, .i a17, .i a18, .i a19, .i a20, .i a21, .i a22, .i a23, .i a24, .i a25, .i a26, .i a27, .i a28]) = some (1, [.i a9, .i a10, .i a11, .i a12, .i a0, .i a1, .i a2, .i a3, .i a5, .i a6, .i a7, .i a8, .i a9, .i a10, .i a11, .i a12, .i a13, .i a14, .i a15, .i a16, .i a17, .i a18, .i a19, .i a20, .i a21, .i a22, .i a23, .i a24, .i a25, .i a26, .i a27, .i a28]) ∨ f20_1 (0, [.i a9, .i a10, .i a11, .i a12, .i a0, .i a1, .i a2, .i a3, .i a5, .i a6, .i a7, .i a8, .i a9, .i a10, .i a11, .i a12, .i a13, .i a14, .i a15, .i a16, .i a17, .i a18, .i a19, .i a20, .i a21, .i a22, .i a23, .i a24, .i a25, .i a26, .i a27, .i a28]) = _
      rcases in0_N a9 a0 a1 a2 a3 a5 a6 a7 a8 a9 a10 a11 a12 a13 a14 a15 a16 a17 a18 a19 a20 a21 a22 a23 a24 a25 a26 a27 a28 with hi | hi
      · simp -implicitDefEqProofs only [f20_1, f20_1_0, asI_i, asI4_i, asN_n, asL_l, asB_b, asE_nil, Bool.cond_decide, Bool.cond_not, hi, altK_0, altK_1, altK_2, altK_3, altK_4, altK_5, altK_6, altK_N7, altK_N8, altK_N9, altK_N10]
        (repeat' split) <;> first | exact Or.inl rfl | exact Or.inr rfl
      · simp -implicitDefEqProofs only [f20_1, f20_1_0, asI_i, asI4_i, asN_n, asL_l, asB_b, asE_nil, Bool.cond_decide, Bool.cond_not, hi, altK_0, altK_1, altK_2, altK_3, altK_4, altK_5, altK_6, altK_N7, altK_N8, altK_N9, altK_N10]
        (repeat' split) <;> first | exact Or.inl rfl | exact Or.inr rfl
    | 1, _ =>
      show f20_1 (1, [.i a9, .i a10, .i a11, .i a12, .i a0, .i a1, .i a2, .i a3, .i a5, .i a6, .i a7, .i a8, .i a9, .i a10, .i a11, .i a12, .i a13, .i a14, .i a15, .i a16, .i a17, .i a18, .i a19, .i a20, .i a21, .i a22, .i a23, .i a24, .i a25, .i a26, .i a27, .i a28]) = some (2, [.i a9, .i a10, .i a11, .i a12, .i a0, .i a1, .i a2, .i a3, .i a5, .i a6, .i a7, .i a8, .i a9, .i a10, .i a11, .i a12, .i a13, .i a14, .i a15, .i a16, .i a17, .i a18, .i a19, .i a20, .i a21, .i a22, .i a23, .i a24, .i a25, .i a26, .i a27, .i a28]) ∨ f20_1 (1, [.i a9, .i a10, .i a11, .i a12, .i a0, .i a1, .i a2, .i a3, .i a5, .i a6, .i a7, .i a8, .i a9, .i a10, .i a11, .i a12, .i a13, .i a14, .i a15, .i a16, .i a17, .i a18, .i a19, .i a20, .i a21, .i a22, .i a23, .i a24, .i a25, .i a26, .i a27, .i a28]) = _
      rcases in1_N a10 a0 a1 a2 a3 a5 a6 a7 a8 a9 a10 a11 a12 a13 a14 a15 a16 a17 a18 a19 a20 a21 a22 a23 a24 a25 a26 a27 a28 with hi | hi
      · simp -implicitDefEqProofs only [f20_1, f20_1_1, asI_i, asI4_i, asN_n, asL_l, asB_b, asE_nil, Bool.cond_decide, Bool.cond_not, hi, altK_0, altK_1, altK_2, altK_3, altK_4, altK_5, altK_6, altK_N7, altK_N8, altK_N9, altK_N10]
        (repeat' split) <;> first | exact Or.inl rfl | exact Or.inr rfl
      · simp -implicitDefEqProofs only [f20_1, f20_1_1, asI_i, asI4_i, asN_n, asL_l, asB_b, asE_nil, Bool.cond_decide, Bool.cond_not, hi, altK_0, altK_1, altK_2, altK_3, altK_4, altK_5, altK_6, altK_N7, altK_N8, altK_N9, altK_N10]
        (repeat' split) <;> first | exact Or.inl rfl | exact Or.inr rfl
    | 2, _ =>
      show f20_1 (2, [.i a9, .i a10, .i a11, .i a12, .i a0, .i a1, .i a2, .i a3, .i a5, .i a6, .i a7, .i a8, .i a9, .i a10, .i a11, .i a12, .i a13, .i a14, .i a15, .i a16, .i a17, .i a18, .i a19, .i a20, .i a21, .i a22, .i a23, .i a24, .i a25, .i a26, .i a27, .i a28]) = some (3, [.i a9, .i a10, .i a11, .i a12, .i a0, .i a1, .i a2, .i a3, .i a5, .i a6, .i a7, .i a8, .i a9, .i a10, .i a11, .i a12, .i a13, .i a14, .i a15, .i a16, .i a17, .i a18, .i a19, .i a20, .i a21, .i a22, .i a23, .i a24, .i a25, .i a26, .i a27, .i a28]) ∨ f20_1 (2, [.i a9, .i a10, .i a11, .i a12, .i a0, .i a1, .i a2, .i a3, .i a5, .i a6, .i a7, .i a8, .i a9, .i a10, .i a11, .i a12, .i a13, .i a14, .i a15, .i a16, .i a17, .i a18, .i a19, .i a20, .i a21, .i a22, .i a23, .i a24, .i a25, .i a26, .i a27, .i a28]) = _
      rcases in2_N a11 a0 a1 a2 a3 a5 a6 a7 a8 a9 a10 a11 a12 a13 a14 a15 a16 a17 a18 a19 a20 a21 a22 a23 a24 a25 a26 a27 a28 with hi | hi
      · simp -implicitDefEqProofs only [f20_1, f20_1_2, asI_i, asI4_i, asN_n, asL_l, asB_b, asE_nil, Bool.cond_decide, Bool.cond_not, hi, altK_0, altK_1, altK_2, altK_3, altK_4, altK_5, altK_6, altK_N7, altK_N8, altK_N9, altK_N10]
        (repeat' split) <;> first | exact Or.inl rfl | exact Or.inr rfl
      · simp -implicitDefEqProofs only [f20_1, f20_1_2, asI_i, asI4_i, asN_n, asL_l, asB_b, asE_nil, Bool.cond_decide, Bool.cond_not, hi, altK_0, altK_1, altK_2, altK_3, altK_4, altK_5, altK_6, altK_N7, altK_N8, altK_N9, altK_N10]
        (repeat' split) <;> first | exact Or.inl rfl | exact Or.inr rfl
    | 3, _ =>
      show f20_1 (3, [.i a9, .i a10, .i a11, .i a12, .i a0, .i a1, .i a2, .i a3, .i a5, .i a6, .i a7, .i a8, .i a9, .i a10, .i a11, .i a12, .i a13, .i a14, .i a15, .i a16, .i a17, .i a18, .i a19, .i a20, .i a21, .i a22, .i a23, .i a24, .i a25, .i a26, .i a27, .i a28]) = some (4, [.i a9, .i a10, .i a11, .i a12, .i a0, .i a1, .i a2, .i a3, .i a5, .i a6, .i a7, .i a8, .i a9, .i a10, .i a11, .i a12, .i a13, .i a14, .i a15, .i a16, .i a17, .i a18, .i a19, .i a20, .i a21, .i a22, .i a23, .i a24, .i a25, .i a26, .i a27, .i a28]) ∨ f20_1 (3, [.i a9, .i a10, .i a11, .i a12, .i a0, .i a1, .i a2, .i a3, .i a5, .i a6, .i a7, .i a8, .i a9, .i a10, .i a11, .i a12, .i a13, .i a14, .i a15, .i a16, .i a17, .i a18, .i a19, .i a20, .i a21, .i a22, .i a23, .i a24, .i a25, .i a26, .i a27, .i a28]) = _
      rcases in3_N a12 a0 a1 a2 a3 a5 a6 a7 a8 a9 a10 a11 a12 a13 a14 a15 a16 a17 a18 a19 a20 a21 a22 a23 a24 a25 a26 a27 a28 with hi | hi
      · simp -implicitDefEqProofs only [f20_1, f20_1_3, asI_i, asI4_i, asN_n, asL_l, asB_b, asE_nil, Bool.cond_decide, Bool.cond_not, hi, altK_0, altK_1, altK_2, altK_3, altK_4, altK_5, altK_6, altK_N7, altK_N8, altK_N9, altK_N10]
        (repeat' split) <;> first | exact Or.inl rfl | exact Or.inr rfl
      · simp -implicitDefEqProofs only [f20_1, f20_1_3, asI_i, asI4_i, asN_n, asL_l, asB_b, asE_nil, Bool.cond_decide, Bool.cond_not, hi, altK_0, altK_1, altK_2, altK_3, altK_4, altK_5, altK_6, altK_N7, altK_N8, altK_N9, altK_N10]
        (repeat' split) <;> first | exact Or.inl rfl | exact Or.inr rfl
    | k + 4, hk => omega
  · show f20_1 (4, [.i a9, .i a10, .i a11, .i a12, .i a0, .i a1, .i a2, .i a3, .i a5, .i a6, .i a7, .i a8, .i a9, .i a10, .i a11, .i a12, .i a13, .i a14, .i a15, .i a16, .i a17, .i a18, .i a19, .i a20, .i a21, .i a22, .i a23, .i a24, .i a25, .i a26, .i a27, .i a28]) = _
    simp -implicitDefEqProofs only [f20_1, f20_1_4, asI_i, asI4_i, asN_n, asL_l, asB_b, asE_nil, Bool.cond_decide, Bool.cond_not]
theorem right_N (a0 a1 a2 a3 a5 a6 a7 a8 a9 a10 a11 a12 a13 a14 a15 a16 a17 a18 a19 a20 a21 a22 a23 a24 a25 a26 a27 a28 : Int) : ∃ b, g20 (0, [.i a0, .i a1, .i a2, .i a3, .i a5, .i a6, .i a7, .i a8, .i a9, .i a10, .i a11, .i a12, .i a13, .i a14, .i a15, .i a16, .i a17, .i a18, .i a19, .i a20, .i a21, .i a22, .i a23, .i a24, .i a25, .i a26, .i a27, .i a28]) = some (0, [.b b]) := by
  obtain ⟨b1, h1⟩ := gains_N [a0, a1, a2, a3] rfl
  obtain ⟨b2, h2⟩ := tones_N
  obtain ⟨b3, h3⟩ := scales_N [a5, a6, a7, a8] rfl
  cases b1 with
  | false => exact ⟨false, by simp -implicitDefEqProofs only [g20, g20_0, asI_i, asI4_i, asN_n, asL_l, asB_b, asE_nil, Bool.cond_decide, Bool.cond_not, altK_0, altK_1, altK_2, altK_3, altK_4, altK_5, altK_6, altK_N7, altK_N8, altK_N9, altK_N10, h1, h2, h3, Bool.not_true, Bool.not_false, cond_true, cond_false]⟩
  | true =>
    cases b2 with
    | false => exact ⟨false, by simp -implicitDefEqProofs only [g20, g20_0, asI_i, asI4_i, asN_n, asL_l, asB_b, asE_nil, Bool.cond_decide, Bool.cond_not, altK_0, altK_1, altK_2, altK_3, altK_4, altK_5, altK_6, altK_N7, altK_N8, altK_N9, altK_N10, h1, h2, h3, Bool.not_true, Bool.not_false, cond_true, cond_false]⟩
    | true =>
      cases b3 with
      | false => exact ⟨false, by simp -implicitDefEqProofs only [g20, g20_0, asI_i, asI4_i, asN_n, asL_l, asB_b, asE_nil, Bool.cond_decide, Bool.cond_not, altK_0, altK_1, altK_2, altK_3, altK_4, altK_5, altK_6, altK_N7, altK_N8, altK_N9, altK_N10, h1, h2, h3, Bool.not_true, Bool.not_false, cond_true, cond_false]⟩
      | true =>
        rcases out_N a0 a1 a2 a3 a5 a6 a7 a8 a9 a10 a11 a12 a13 a14 a15 a16 a17 a18 a19 a20 a21 a22 a23 a24 a25 a26 a27 a28 with h4 | h4
        · exact ⟨false, by simp -implicitDefEqProofs only [g20, g20_0, asI_i, asI4_i, asN_n, asL_l, asB_b, asE_nil, Bool.cond_decide, Bool.cond_not, altK_0, altK_1, altK_2, altK_3, altK_4, altK_5, altK_6, altK_N7, altK_N8, altK_N9, altK_N10, h1, h2, h3, Bool.not_true, Bool.not_false, cond_true, cond_false, h4]⟩
        · exact ⟨true, by simp -implicitDefEqProofs only [g20, g20_0, asI_i, asI4_i, asN_n, asL_l, asB_b, asE_nil, Bool.cond_decide, Bool.cond_not, altK_0, altK_1, altK_2, altK_3, altK_4, altK_5, altK_6, altK_N7, altK_N8, altK_N9, altK_N10, h1, h2, h3, Bool.not_true, Bool.not_false, cond_true, cond_false, h4]⟩
theorem of_N (size a0 a1 a2 a3 a5 a6 a7 a8 a9 a10 a11 a12 a13 a14 a15 a16 a17 a18 a19 a20 a21 a22 a23 a24 a25 a26 a27 a28 : Int) : g21 (0, [.i a0, .i a1, .i a2, .i a3, .i a5, .i a6, .i a7, .i a8, .i a9, .i a10, .i a11, .i a12, .i a13, .i a14, .i a15, .i a16, .i a17, .i a18, .i a19, .i a20, .i a21, .i a22, .i a23, .i a24, .i a25, .i a26, .i a27, .i a28, .i size]) = some (0, [.i 52, .i (0), .i (cK [a9, a10, a11, a12] 4), .i (IntKind.i64.wrap (IntKind.i64.wrap (IntKind.i64.wrap (IntKind.i64.wrap (8 * size) - 52) - 0) - cK [a9, a10, a11, a12] 4))]) := by
  simp -implicitDefEqProofs only [g21, g21_0, asI_i, asI4_i, asN_n, asL_l, asB_b, asE_nil, Bool.cond_decide, Bool.cond_not, cost_N [a9, a10, a11, a12] rfl, altK_0]
theorem sum_N (m : Nat) (g : List Int) (hm : m ≤ 1000) (hg : m * 4 ≤ g.length) : g22 (0, [.n m, .l g]) = some (0, [.i (sK g 0 m), .i (sK g 1 m), .i (sK g 2 m), .i (sK g 3 m), .l g]) := by
  have hl : L22_0 (0, [.n m, .i m, .i 0, .l g, .i 0, .i 0, .i 0, .i 0, .i 0, .i 0, .i 0, .i 0]) = some (0, [.l g, .i 0, .i 0, .i 0, .i 0, .i (sK g 0 m), .i (sK g 1 m), .i (sK g 2 m), .i (sK g 3 m)]) := by
    refine loopL_run (m := 3) (f := f22_0) (fun k => (0, [.n m, .i m, .i k, .l g, .i 0, .i 0, .i 0, .i 0, .i (sK g 0 k), .i (sK g 1 k), .i (sK g 2 k), .i (sK g 3 k)])) m (fun k hk => ⟨?_, by show 0 < 3; omega⟩) ?_ (by omega)
    · have cl := c4_len (h := g) (k := k) (by omega)
      have c0 := c4_get (h := g) (k := k) (by omega) 0 (by omega)
      have c1 := c4_get (h := g) (k := k) (by omega) 1 (by omega)
      have c2 := c4_get (h := g) (k := k) (by omega) 2 (by omega)
      have c3 := c4_get (h := g) (k := k) (by omega) 3 (by omega)
      have w2 : IntKind.i64.wrap ((k : Int) + 1) = ((k + 1 : Nat) : Int) := wrap_nat (n := k + 1) (by omega)
      simp -implicitDefEqProofs only [f22_0, f22_0_0, asI_i, asI4_i, asN_n, asL_l, asB_b, asE_nil, Bool.cond_decide, Bool.cond_not, if_pos (show (k : Int) < m by omega), if_pos (show (0 : Int) ≤ k ∧ (k : Int) < m by omega), Int.toNat_natCast, if_pos (show k * 4 + 4 ≤ g.length by omega), cl, if_true, if_pos (show 0 + 4 ≤ 4 by omega), drop4, List.append_nil, c0, c1, c2, c3, optK_some, w2, sK]
    · simp -implicitDefEqProofs only [f22_0, f22_0_0, asI_i, asI4_i, asN_n, asL_l, asB_b, asE_nil, Bool.cond_decide, Bool.cond_not, if_neg (Int.lt_irrefl _)]
  simp -implicitDefEqProofs only [g22, g22_0, asI_i, asI4_i, asN_n, asL_l, asB_b, asE_nil, Bool.cond_decide, Bool.cond_not, hl, altK_0]
theorem sumN_N : g22 (1, []) = some (1, [.i 0, .i 0, .i 0, .i 0]) := by
  have hl : L22_0 (1, [.i 0, .i 0, .i 0, .i 0, .i 0, .i 0, .i 0, .i 0, .i 0, .i 0]) = some (1, [.i 0, .i 0, .i 0, .i 0, .i 0, .i 0, .i 0, .i 0]) := loopL_last (m := 3) (f := f22_0) (j := 1) (by simp -implicitDefEqProofs only [f22_0, f22_0_1, asI_i, asI4_i, asN_n, asL_l, asB_b, asE_nil, Bool.cond_decide, Bool.cond_not, if_neg (Int.lt_irrefl _)])
  simp -implicitDefEqProofs only [g22, g22_1, asI_i, asI4_i, asN_n, asL_l, asB_b, asE_nil, Bool.cond_decide, Bool.cond_not, hl, altK_1]
theorem sumU_N : g22 (2, [.n 0]) = some (2, [.i 0, .i 0, .i 0, .i 0]) := by
  have hl : L22_0 (2, [.n 0, .i ((0 : Nat) : Int), .i 0, .i 0, .i 0, .i 0, .i 0, .i 0, .i 0, .i 0, .i 0]) = some (2, [.i 0, .i 0, .i 0, .i 0, .i 0, .i 0, .i 0, .i 0]) := loopL_last (m := 3) (f := f22_0) (j := 2) (by simp -implicitDefEqProofs only [f22_0, f22_0_2, asI_i, asI4_i, asN_n, asL_l, asB_b, asE_nil, Bool.cond_decide, Bool.cond_not, if_neg (show ¬ (0 : Int) < ((0 : Nat) : Int) by omega)])
  simp -implicitDefEqProofs only [g22, g22_2, asI_i, asI4_i, asN_n, asL_l, asB_b, asE_nil, Bool.cond_decide, Bool.cond_not, hl, altK_2]
theorem first0_N (a0 a1 a2 a3 a5 a6 a7 a8 a9 a10 a11 a12 a13 a14 a15 a16 a17 a18 a19 a20 a21 a22 a23 a24 a25 a26 a27 a28 : Int) (m : Nat) (g : List Int) (hm : 0 < m) (hg : m * 4 ≤ g.length) : f7_0 (0, [.n m, .i 0, .l g, .i a0, .i a1, .i a2, .i a3, .i a5, .i a6, .i a7, .i a8, .i a9, .i a10, .i a11, .i a12, .i a13, .i a14, .i a15, .i a16, .i a17, .i a18, .i a19, .i a20, .i a21, .i a22, .i a23, .i a24, .i a25, .i a26, .i a27, .i a28, .i 0, .i 0, .i 0, .i 0]) = some (6, [.n m, .i ((1 : Nat) : Int), .l g, .i (sK g 0 1), .i (sK g 1 1), .i (sK g 2 1), .i (sK g 3 1)]) ∨ f7_0 (0, [.n m, .i 0, .l g, .i a0, .i a1, .i a2, .i a3, .i a5, .i a6, .i a7, .i a8, .i a9, .i a10, .i a11, .i a12, .i a13, .i a14, .i a15, .i a16, .i a17, .i a18, .i a19, .i a20, .i a21, .i a22, .i a23, .i a24, .i a25, .i a26, .i a27, .i a28, .i 0, .i 0, .i 0, .i 0]) = some (8, [.b true, .l g, .i a0, .i a1, .i a2, .i a3, .i a5, .i a6, .i a7, .i a8, .i a9, .i a10, .i a11, .i a12, .i a13, .i a14, .i a15, .i a16, .i a17, .i a18, .i a19, .i a20, .i a21, .i a22, .i a23, .i a24, .i a25, .i a26, .i a27, .i a28, .i 0, .i 0, .i 0, .i 0, .l (List.take 4 (List.drop (0 * 4) g))]) := by
  have cl := c4_len (h := g) (k := 0) (by omega)
  have c0 := c4_get (h := g) (k := 0) (by omega) 0 (by omega)
  have c1 := c4_get (h := g) (k := 0) (by omega) 1 (by omega)
  have c2 := c4_get (h := g) (k := 0) (by omega) 2 (by omega)
  have c3 := c4_get (h := g) (k := 0) (by omega) 3 (by omega)
  have w2 : IntKind.i64.wrap ((0 : Int) + 1) = ((0 + 1 : Nat) : Int) := wrap_nat (n := 0 + 1) (by omega)
  obtain ⟨z0, y0⟩ := hold_N (g.getD (0 * 4 + 0) 0)
  obtain ⟨z1, y1⟩ := hold_N (g.getD (0 * 4 + 1) 0)
  obtain ⟨z2, y2⟩ := hold_N (g.getD (0 * 4 + 2) 0)
  obtain ⟨z3, y3⟩ := hold_N (g.getD (0 * 4 + 3) 0)
  have e : ∀ c, sK g c 1 = IntKind.i64.wrap (0 + g.getD (0 * 4 + c) 0) := fun c => rfl
  have t0 : Int.toNat 0 = 0 := rfl
  have w3 : IntKind.i64.wrap (0 + 1) = ((1 : Nat) : Int) := rfl
  simp only [e]
  generalize g.getD (0 * 4 + 0) 0 = v0 at *
  generalize g.getD (0 * 4 + 1) 0 = v1 at *
  generalize g.getD (0 * 4 + 2) 0 = v2 at *
  generalize g.getD (0 * 4 + 3) 0 = v3 at *
  simp -implicitDefEqProofs only [f7_0, f7_0_0, asI_i, asI4_i, asN_n, asL_l, asB_b, asE_nil, Bool.cond_decide, Bool.cond_not, Int.toNat_natCast, cl, if_true, if_pos (show 0 + 4 ≤ 4 by omega), drop4, List.append_nil, c0, c1, c2, c3, optK_some, y0, y1, y2, y3, altK_0, awakeL_ok, w2, t0, if_pos (show (0 : Int) < m by omega), if_pos (show (0 : Int) ≤ 0 ∧ (0 : Int) < m by omega), if_pos (show 0 * 4 + 4 ≤ g.length by omega), if_neg (show ¬ (20 : Int) < 0 by omega), w3]
  (repeat' split) <;> first | exact Or.inl rfl | exact Or.inr rfl
theorem round_N (m : Nat) (g : List Int) (k : Nat) (hk : k < m) (h21 : k < 21) (hg : m * 4 ≤ g.length) : f7_0 (6, [.n m, .i k, .l g, .i (sK g 0 k), .i (sK g 1 k), .i (sK g 2 k), .i (sK g 3 k)]) = some (6, [.n m, .i (k + 1 : Nat), .l g, .i (sK g 0 (k + 1)), .i (sK g 1 (k + 1)), .i (sK g 2 (k + 1)), .i (sK g 3 (k + 1))]) ∨ f7_0 (6, [.n m, .i k, .l g, .i (sK g 0 k), .i (sK g 1 k), .i (sK g 2 k), .i (sK g 3 k)]) = some (16, [.b true, .l g, .i (sK g 0 k), .i (sK g 1 k), .i (sK g 2 k), .i (sK g 3 k), .l (List.take 4 (List.drop (k * 4) g))]) := by
  have cl := c4_len (h := g) (k := k) (by omega)
  have c0 := c4_get (h := g) (k := k) (by omega) 0 (by omega)
  have c1 := c4_get (h := g) (k := k) (by omega) 1 (by omega)
  have c2 := c4_get (h := g) (k := k) (by omega) 2 (by omega)
  have c3 := c4_get (h := g) (k := k) (by omega) 3 (by omega)
  have w2 : IntKind.i64.wrap ((k : Int) + 1) = ((k + 1 : Nat) : Int) := wrap_nat (n := k + 1) (by omega)
  obtain ⟨z0, y0⟩ := hold_N (g.getD (k * 4 + 0) 0)
  obtain ⟨z1, y1⟩ := hold_N (g.getD (k * 4 + 1) 0)
  obtain ⟨z2, y2⟩ := hold_N (g.getD (k * 4 + 2) 0)
  obtain ⟨z3, y3⟩ := hold_N (g.getD (k * 4 + 3) 0)
  have e : ∀ c, sK g c (k + 1) = IntKind.i64.wrap (sK g c k + g.getD (k * 4 + c) 0) := fun c => rfl
  simp only [e]
  generalize g.getD (k * 4 + 0) 0 = v0 at *
  generalize sK g 0 k = u0 at *
  generalize g.getD (k * 4 + 1) 0 = v1 at *
  generalize sK g 1 k = u1 at *
  generalize g.getD (k * 4 + 2) 0 = v2 at *
  generalize sK g 2 k = u2 at *
  generalize g.getD (k * 4 + 3) 0 = v3 at *
  generalize sK g 3 k = u3 at *
  have hle : k * 4 + 4 ≤ g.length := by omega
  simp -implicitDefEqProofs only [f7_0, f7_0_6, asI_i, asI4_i, asN_n, asL_l, asB_b, asE_nil, Bool.cond_decide, Bool.cond_not, Int.toNat_natCast, cl, if_true, if_pos (show 0 + 4 ≤ 4 by omega), drop4, List.append_nil, c0, c1, c2, c3, optK_some, y0, y1, y2, y3, altK_0, awakeL_ok, w2, if_pos (show (k : Int) < m by omega), if_pos (show (0 : Int) ≤ k ∧ (k : Int) < m by omega), if_pos hle, if_neg (show ¬ (20 : Int) < k by omega)]
  (repeat' split) <;> first | exact Or.inl rfl | exact Or.inr rfl
theorem cap_N (m : Nat) (g : List Int) (hk : 21 < m) (hg : m * 4 ≤ g.length) : f7_0 (6, [.n m, .i ((21 : Nat) : Int), .l g, .i (sK g 0 (21)), .i (sK g 1 (21)), .i (sK g 2 (21)), .i (sK g 3 (21))]) = some (16, [.b true, .l g, .i (sK g 0 21), .i (sK g 1 21), .i (sK g 2 21), .i (sK g 3 21), .l (List.take 4 (List.drop (21 * 4) g))]) := by
  have cl := c4_len (h := g) (k := 21) (by omega)
  generalize sK g 0 21 = u0 at *
  generalize sK g 1 21 = u1 at *
  generalize sK g 2 21 = u2 at *
  generalize sK g 3 21 = u3 at *
  have hle : 21 * 4 + 4 ≤ g.length := by omega
  have t0 : Int.toNat ((21 : Nat) : Int) = 21 := rfl
  simp -implicitDefEqProofs only [f7_0, f7_0_6, asI_i, asI4_i, asN_n, asL_l, asB_b, asE_nil, Bool.cond_decide, Bool.cond_not, t0, if_pos (show ((21 : Nat) : Int) < m by omega), if_pos (show (0 : Int) ≤ ((21 : Nat) : Int) ∧ ((21 : Nat) : Int) < m by omega), if_pos hle, cl, if_true, if_pos (show 0 + 4 ≤ 4 by omega), drop4, List.append_nil, if_pos (show (20 : Int) < ((21 : Nat) : Int) by omega), altK_0, awakeL_ok]
theorem end_N (m : Nat) (g : List Int) : f7_0 (6, [.n m, .i m, .l g, .i (sK g 0 m), .i (sK g 1 m), .i (sK g 2 m), .i (sK g 3 m)]) = some (15, [.n m, .l g, .i (sK g 0 m), .i (sK g 1 m), .i (sK g 2 m), .i (sK g 3 m)]) := by
  simp -implicitDefEqProofs only [f7_0, f7_0_6, asI_i, asI4_i, asN_n, asL_l, asB_b, asE_nil, Bool.cond_decide, Bool.cond_not, if_neg (Int.lt_irrefl _)]
theorem acc0_N (a0 a1 a2 a3 a5 a6 a7 a8 a9 a10 a11 a12 a13 a14 a15 a16 a17 a18 a19 a20 a21 a22 a23 a24 a25 a26 a27 a28 : Int) (m : Nat) (g : List Int) (hg : m * 4 ≤ g.length) : (m = 0 ∧ L7_0 (0, [.n m, .i 0, .l g, .i a0, .i a1, .i a2, .i a3, .i a5, .i a6, .i a7, .i a8, .i a9, .i a10, .i a11, .i a12, .i a13, .i a14, .i a15, .i a16, .i a17, .i a18, .i a19, .i a20, .i a21, .i a22, .i a23, .i a24, .i a25, .i a26, .i a27, .i a28, .i 0, .i 0, .i 0, .i 0]) = some (0, [.n m, .l g, .i a0, .i a1, .i a2, .i a3, .i a5, .i a6, .i a7, .i a8, .i a9, .i a10, .i a11, .i a12, .i a13, .i a14, .i a15, .i a16, .i a17, .i a18, .i a19, .i a20, .i a21, .i a22, .i a23, .i a24, .i a25, .i a26, .i a27, .i a28, .i 0, .i 0, .i 0, .i 0])) ∨ L7_0 (0, [.n m, .i 0, .l g, .i a0, .i a1, .i a2, .i a3, .i a5, .i a6, .i a7, .i a8, .i a9, .i a10, .i a11, .i a12, .i a13, .i a14, .i a15, .i a16, .i a17, .i a18, .i a19, .i a20, .i a21, .i a22, .i a23, .i a24, .i a25, .i a26, .i a27, .i a28, .i 0, .i 0, .i 0, .i 0]) = some (1, [.b true, .l g, .i a0, .i a1, .i a2, .i a3, .i a5, .i a6, .i a7, .i a8, .i a9, .i a10, .i a11, .i a12, .i a13, .i a14, .i a15, .i a16, .i a17, .i a18, .i a19, .i a20, .i a21, .i a22, .i a23, .i a24, .i a25, .i a26, .i a27, .i a28, .i 0, .i 0, .i 0, .i 0, .l (List.take 4 (List.drop (0 * 4) g))]) ∨ (m ≤ 21 ∧ L7_0 (0, [.n m, .i 0, .l g, .i a0, .i a1, .i a2, .i a3, .i a5, .i a6, .i a7, .i a8, .i a9, .i a10, .i a11, .i a12, .i a13, .i a14, .i a15, .i a16, .i a17, .i a18, .i a19, .i a20, .i a21, .i a22, .i a23, .i a24, .i a25, .i a26, .i a27, .i a28, .i 0, .i 0, .i 0, .i 0]) = some (8, [.n m, .l g, .i (sK g 0 m), .i (sK g 1 m), .i (sK g 2 m), .i (sK g 3 m)])) ∨ ∃ k, L7_0 (0, [.n m, .i 0, .l g, .i a0, .i a1, .i a2, .i a3, .i a5, .i a6, .i a7, .i a8, .i a9, .i a10, .i a11, .i a12, .i a13, .i a14, .i a15, .i a16, .i a17, .i a18, .i a19, .i a20, .i a21, .i a22, .i a23, .i a24, .i a25, .i a26, .i a27, .i a28, .i 0, .i 0, .i 0, .i 0]) = some (9, [.b true, .l g, .i (sK g 0 k), .i (sK g 1 k), .i (sK g 2 k), .i (sK g 3 k), .l (List.take 4 (List.drop (k * 4) g))]) := by
  by_cases hm : m = 0
  · subst hm
    refine Or.inl ⟨rfl, loopL_last (m := 7) (f := f7_0) (j := 0) ?_⟩
    simp -implicitDefEqProofs only [f7_0, f7_0_0, asI_i, asI4_i, asN_n, asL_l, asB_b, asE_nil, Bool.cond_decide, Bool.cond_not, if_neg (show ¬ (0 : Int) < ((0 : Nat) : Int) by omega)]
  · rcases first0_N a0 a1 a2 a3 a5 a6 a7 a8 a9 a10 a11 a12 a13 a14 a15 a16 a17 a18 a19 a20 a21 a22 a23 a24 a25 a26 a27 a28 m g (by omega) hg with h1 | h1
    · let S : Nat → Nat × List Leaf := fun k => if k = 0 then (0, [.n m, .i 0, .l g, .i a0, .i a1, .i a2, .i a3, .i a5, .i a6, .i a7, .i a8, .i a9, .i a10, .i a11, .i a12, .i a13, .i a14, .i a15, .i a16, .i a17, .i a18, .i a19, .i a20, .i a21, .i a22, .i a23, .i a24, .i a25, .i a26, .i a27, .i a28, .i 0, .i 0, .i 0, .i 0]) else (6, [.n m, .i k, .l g, .i (sK g 0 k), .i (sK g 1 k), .i (sK g 2 k), .i (sK g 3 k)])
      have S0 : S 0 = (0, [.n m, .i 0, .l g, .i a0, .i a1, .i a2, .i a3, .i a5, .i a6, .i a7, .i a8, .i a9, .i a10, .i a11, .i a12, .i a13, .i a14, .i a15, .i a16, .i a17, .i a18, .i a19, .i a20, .i a21, .i a22, .i a23, .i a24, .i a25, .i a26, .i a27, .i a28, .i 0, .i 0, .i 0, .i 0]) := rfl
      have Sk : ∀ k, k ≠ 0 → S k = (6, [.n m, .i k, .l g, .i (sK g 0 k), .i (sK g 1 k), .i (sK g 2 k), .i (sK g 3 k)]) := fun k hk => if_neg hk
      have hS : ∀ k, (S k).1 < 7 := fun k => by
        by_cases hk : k = 0
        · subst hk; show 0 < 7; omega
        · rw [Sk k hk]; show 6 < 7; omega
      have hs : ∀ k, k < m → k < 21 → f7_0 (S k) = some (S (k + 1)) ∨ f7_0 (S k) = some (7 + 9, [.b true, .l g, .i (sK g 0 k), .i (sK g 1 k), .i (sK g 2 k), .i (sK g 3 k), .l (List.take 4 (List.drop (k * 4) g))]) := by
        intro k hk h21
        by_cases hk0 : k = 0
        · subst hk0; exact Or.inl h1
        · rw [Sk k hk0, Sk (k + 1) (by omega)]
          exact round_N m g k hk h21 hg
      by_cases h21 : m ≤ 21
      · have main := loop_first (m := 7) (f := f7_0) S m (fun _ => 9) (fun k => [.b true, .l g, .i (sK g 0 k), .i (sK g 1 k), .i (sK g 2 k), .i (sK g 3 k), .l (List.take 4 (List.drop (k * 4) g))]) (fun _ => True) (jb := 8) (rb := [.n m, .l g, .i (sK g 0 m), .i (sK g 1 m), .i (sK g 2 m), .i (sK g 3 m)]) (fun k _ => hS k) (fun k hk => ?_) ?_ (by omega)
        · rcases main with ⟨h2, _⟩ | ⟨k, _, h2⟩
          · exact Or.inr (Or.inr (Or.inl ⟨h21, h2⟩))
          · exact Or.inr (Or.inr (Or.inr ⟨k, h2⟩))
        · rcases hs k hk (by omega) with h2 | h2
          · exact Or.inl ⟨h2, trivial⟩
          · exact Or.inr h2
        · rw [Sk m hm]; exact end_N m g
      · have main := loop_first (m := 7) (f := f7_0) S 21 (fun _ => 9) (fun k => [.b true, .l g, .i (sK g 0 k), .i (sK g 1 k), .i (sK g 2 k), .i (sK g 3 k), .l (List.take 4 (List.drop (k * 4) g))]) (fun _ => True) (jb := 9) (rb := [.b true, .l g, .i (sK g 0 21), .i (sK g 1 21), .i (sK g 2 21), .i (sK g 3 21), .l (List.take 4 (List.drop (21 * 4) g))]) (fun k _ => hS k) (fun k hk => ?_) ?_ (by omega)
        · rcases main with ⟨h2, _⟩ | ⟨k, _, h2⟩
          · exact Or.inr (Or.inr (Or.inr ⟨21, h2⟩))
          · exact Or.inr (Or.inr (Or.inr ⟨k, h2⟩))
        · rcases hs k (by omega) hk with h2 | h2
          · exact Or.inl ⟨h2, trivial⟩
          · exact Or.inr h2
        · rw [Sk 21 (by omega)]; exact cap_N m g (by omega) hg
    · exact Or.inr (Or.inl (loopL_last (m := 7) (f := f7_0) (j := 1) h1))
theorem accN0_N (a0 a1 a2 a3 a5 a6 a7 a8 a9 a10 a11 a12 a13 a14 a15 a16 a17 a18 a19 a20 a21 a22 a23 a24 a25 a26 a27 a28 : Int) : L7_0 (2, [.i 0, .i a0, .i a1, .i a2, .i a3, .i a5, .i a6, .i a7, .i a8, .i a9, .i a10, .i a11, .i a12, .i a13, .i a14, .i a15, .i a16, .i a17, .i a18, .i a19, .i a20, .i a21, .i a22, .i a23, .i a24, .i a25, .i a26, .i a27, .i a28, .i 0, .i 0, .i 0, .i 0]) = some (4, [.i a0, .i a1, .i a2, .i a3, .i a5, .i a6, .i a7, .i a8, .i a9, .i a10, .i a11, .i a12, .i a13, .i a14, .i a15, .i a16, .i a17, .i a18, .i a19, .i a20, .i a21, .i a22, .i a23, .i a24, .i a25, .i a26, .i a27, .i a28, .i 0, .i 0, .i 0, .i 0]) := by
  exact loopL_last (m := 7) (f := f7_0) (j := 4) (by simp -implicitDefEqProofs only [f7_0, f7_0_2, asI_i, asI4_i, asN_n, asL_l, asB_b, asE_nil, Bool.cond_decide, Bool.cond_not, if_neg (Int.lt_irrefl _), if_neg (show ¬ (0 : Int) < ((0 : Nat) : Int) by omega)])
theorem accU0_N (a0 a1 a2 a3 a5 a6 a7 a8 a9 a10 a11 a12 a13 a14 a15 a16 a17 a18 a19 a20 a21 a22 a23 a24 a25 a26 a27 a28 : Int) : L7_0 (4, [.n 0, .i 0, .i a0, .i a1, .i a2, .i a3, .i a5, .i a6, .i a7, .i a8, .i a9, .i a10, .i a11, .i a12, .i a13, .i a14, .i a15, .i a16, .i a17, .i a18, .i a19, .i a20, .i a21, .i a22, .i a23, .i a24, .i a25, .i a26, .i a27, .i a28, .i 0, .i 0, .i 0, .i 0]) = some (6, [.n 0, .i a0, .i a1, .i a2, .i a3, .i a5, .i a6, .i a7, .i a8, .i a9, .i a10, .i a11, .i a12, .i a13, .i a14, .i a15, .i a16, .i a17, .i a18, .i a19, .i a20, .i a21, .i a22, .i a23, .i a24, .i a25, .i a26, .i a27, .i a28, .i 0, .i 0, .i 0, .i 0]) := by
  exact loopL_last (m := 7) (f := f7_0) (j := 6) (by simp -implicitDefEqProofs only [f7_0, f7_0_4, asI_i, asI4_i, asN_n, asL_l, asB_b, asE_nil, Bool.cond_decide, Bool.cond_not, if_neg (Int.lt_irrefl _), if_neg (show ¬ (0 : Int) < ((0 : Nat) : Int) by omega)])
theorem first1_N (a0 a1 a2 a3 a5 a6 a7 a8 a9 a10 a11 a12 a13 a14 a15 a16 a17 a18 a19 a20 a21 a22 a23 a24 a25 a26 a27 a28 : Int) (e0 e1 e2 e3 : Int) (m : Nat) (g : List Int) (hm : 0 < m) (hg : m * 4 ≤ g.length) : f7_0 (1, [.n m, .i 0, .l g, .i a0, .i a1, .i a2, .i a3, .i a5, .i a6, .i a7, .i a8, .i a9, .i a10, .i a11, .i a12, .i a13, .i a14, .i a15, .i a16, .i a17, .i a18, .i a19, .i a20, .i a21, .i a22, .i a23, .i a24, .i a25, .i a26, .i a27, .i a28, .i e0, .i e1, .i e2, .i e3, .i 0, .i 0, .i 0, .i 0]) = some (6, [.n m, .i ((1 : Nat) : Int), .l g, .i (sK g 0 1), .i (sK g 1 1), .i (sK g 2 1), .i (sK g 3 1)]) ∨ f7_0 (1, [.n m, .i 0, .l g, .i a0, .i a1, .i a2, .i a3, .i a5, .i a6, .i a7, .i a8, .i a9, .i a10, .i a11, .i a12, .i a13, .i a14, .i a15, .i a16, .i a17, .i a18, .i a19, .i a20, .i a21, .i a22, .i a23, .i a24, .i a25, .i a26, .i a27, .i a28, .i e0, .i e1, .i e2, .i e3, .i 0, .i 0, .i 0, .i 0]) = some (10, [.b true, .l g, .i a0, .i a1, .i a2, .i a3, .i a5, .i a6, .i a7, .i a8, .i a9, .i a10, .i a11, .i a12, .i a13, .i a14, .i a15, .i a16, .i a17, .i a18, .i a19, .i a20, .i a21, .i a22, .i a23, .i a24, .i a25, .i a26, .i a27, .i a28, .i e0, .i e1, .i e2, .i e3, .i 0, .i 0, .i 0, .i 0, .l (List.take 4 (List.drop (0 * 4) g))]) := by
  have cl := c4_len (h := g) (k := 0) (by omega)
  have c0 := c4_get (h := g) (k := 0) (by omega) 0 (by omega)
  have c1 := c4_get (h := g) (k := 0) (by omega) 1 (by omega)
  have c2 := c4_get (h := g) (k := 0) (by omega) 2 (by omega)
  have c3 := c4_get (h := g) (k := 0) (by omega) 3 (by omega)
  have w2 : IntKind.i64.wrap ((0 : Int) + 1) = ((0 + 1 : Nat) : Int) := wrap_nat (n := 0 + 1) (by omega)
  obtain ⟨z0, y0⟩ := hold_N (g.getD (0 * 4 + 0) 0)
  obtain ⟨z1, y1⟩ := hold_N (g.getD (0 * 4 + 1) 0)
  obtain ⟨z2, y2⟩ := hold_N (g.getD (0 * 4 + 2) 0)
  obtain ⟨z3, y3⟩ := hold_N (g.getD (0 * 4 + 3) 0)
  have e : ∀ c, sK g c 1 = IntKind.i64.wrap (0 + g.getD (0 * 4 + c) 0) := fun c => rfl
  have t0 : Int.toNat 0 = 0 := rfl
  have w3 : IntKind.i64.wrap (0 + 1) = ((1 : Nat) : Int) := rfl
  simp only [e]
  generalize g.getD (0 * 4 + 0) 0 = v0 at *
  generalize g.getD (0 * 4 + 1) 0 = v1 at *
  generalize g.getD (0 * 4 + 2) 0 = v2 at *
  generalize g.getD (0 * 4 + 3) 0 = v3 at *
  simp -implicitDefEqProofs only [f7_0, f7_0_1, asI_i, asI4_i, asN_n, asL_l, asB_b, asE_nil, Bool.cond_decide, Bool.cond_not, Int.toNat_natCast, cl, if_true, if_pos (show 0 + 4 ≤ 4 by omega), drop4, List.append_nil, c0, c1, c2, c3, optK_some, y0, y1, y2, y3, altK_0, awakeL_ok, w2, t0, if_pos (show (0 : Int) < m by omega), if_pos (show (0 : Int) ≤ 0 ∧ (0 : Int) < m by omega), if_pos (show 0 * 4 + 4 ≤ g.length by omega), if_neg (show ¬ (20 : Int) < 0 by omega), w3]
  (repeat' split) <;> first | exact Or.inl rfl | exact Or.inr rfl
theorem acc1_N (a0 a1 a2 a3 a5 a6 a7 a8 a9 a10 a11 a12 a13 a14 a15 a16 a17 a18 a19 a20 a21 a22 a23 a24 a25 a26 a27 a28 : Int) (e0 e1 e2 e3 : Int) (m : Nat) (g : List Int) (hg : m * 4 ≤ g.length) : (m = 0 ∧ L7_0 (1, [.n m, .i 0, .l g, .i a0, .i a1, .i a2, .i a3, .i a5, .i a6, .i a7, .i a8, .i a9, .i a10, .i a11, .i a12, .i a13, .i a14, .i a15, .i a16, .i a17, .i a18, .i a19, .i a20, .i a21, .i a22, .i a23, .i a24, .i a25, .i a26, .i a27, .i a28, .i e0, .i e1, .i e2, .i e3, .i 0, .i 0, .i 0, .i 0]) = some (2, [.n m, .l g, .i a0, .i a1, .i a2, .i a3, .i a5, .i a6, .i a7, .i a8, .i a9, .i a10, .i a11, .i a12, .i a13, .i a14, .i a15, .i a16, .i a17, .i a18, .i a19, .i a20, .i a21, .i a22, .i a23, .i a24, .i a25, .i a26, .i a27, .i a28, .i e0, .i e1, .i e2, .i e3, .i 0, .i 0, .i 0, .i 0])) ∨ L7_0 (1, [.n m, .i 0, .l g, .i a0, .i a1, .i a2, .i a3, .i a5, .i a6, .i a7, .i a8, .i a9, .i a10, .i a11, .i a12, .i a13, .i a14, .i a15, .i a16, .i a17, .i a18, .i a19, .i a20, .i a21, .i a22, .i a23, .i a24, .i a25, .i a26, .i a27, .i a28, .i e0, .i e1, .i e2, .i e3, .i 0, .i 0, .i 0, .i 0]) = some (3, [.b true, .l g, .i a0, .i a1, .i a2, .i a3, .i a5, .i a6, .i a7, .i a8, .i a9, .i a10, .i a11, .i a12, .i a13, .i a14, .i a15, .i a16, .i a17, .i a18, .i a19, .i a20, .i a21, .i a22, .i a23, .i a24, .i a25, .i a26, .i a27, .i a28, .i e0, .i e1, .i e2, .i e3, .i 0, .i 0, .i 0, .i 0, .l (List.take 4 (List.drop (0 * 4) g))]) ∨ (m ≤ 21 ∧ L7_0 (1, [.n m, .i 0, .l g, .i a0, .i a1, .i a2, .i a3, .i a5, .i a6, .i a7, .i a8, .i a9, .i a10, .i a11, .i a12, .i a13, .i a14, .i a15, .i a16, .i a17, .i a18, .i a19, .i a20, .i a21, .i a22, .i a23, .i a24, .i a25, .i a26, .i a27, .i a28, .i e0, .i e1, .i e2, .i e3, .i 0, .i 0, .i 0, .i 0]) = some (8, [.n m, .l g, .i (sK g 0 m), .i (sK g 1 m), .i (sK g 2 m), .i (sK g 3 m)])) ∨ ∃ k, L7_0 (1, [.n m, .i 0, .l g, .i a0, .i a1, .i a2, .i a3, .i a5, .i a6, .i a7, .i a8, .i a9, .i a10, .i a11, .i a12, .i a13, .i a14, .i a15, .i a16, .i a17, .i a18, .i a19, .i a20, .i a21, .i a22, .i a23, .i a24, .i a25, .i a26, .i a27, .i a28, .i e0, .i e1, .i e2, .i e3, .i 0, .i 0, .i 0, .i 0]) = some (9, [.b true, .l g, .i (sK g 0 k), .i (sK g 1 k), .i (sK g 2 k), .i (sK g 3 k), .l (List.take 4 (List.drop (k * 4) g))]) := by
  by_cases hm : m = 0
  · subst hm
    refine Or.inl ⟨rfl, loopL_last (m := 7) (f := f7_0) (j := 2) ?_⟩
    simp -implicitDefEqProofs only [f7_0, f7_0_1, asI_i, asI4_i, asN_n, asL_l, asB_b, asE_nil, Bool.cond_decide, Bool.cond_not, if_neg (show ¬ (0 : Int) < ((0 : Nat) : Int) by omega)]
  · rcases first1_N a0 a1 a2 a3 a5 a6 a7 a8 a9 a10 a11 a12 a13 a14 a15 a16 a17 a18 a19 a20 a21 a22 a23 a24 a25 a26 a27 a28 e0 e1 e2 e3 m g (by omega) hg with h1 | h1
    · let S : Nat → Nat × List Leaf := fun k => if k = 0 then (1, [.n m, .i 0, .l g, .i a0, .i a1, .i a2, .i a3, .i a5, .i a6, .i a7, .i a8, .i a9, .i a10, .i a11, .i a12, .i a13, .i a14, .i a15, .i a16, .i a17, .i a18, .i a19, .i a20, .i a21, .i a22, .i a23, .i a24, .i a25, .i a26, .i a27, .i a28, .i e0, .i e1, .i e2, .i e3, .i 0, .i 0, .i 0, .i 0]) else (6, [.n m, .i k, .l g, .i (sK g 0 k), .i (sK g 1 k), .i (sK g 2 k), .i (sK g 3 k)])
      have S0 : S 0 = (1, [.n m, .i 0, .l g, .i a0, .i a1, .i a2, .i a3, .i a5, .i a6, .i a7, .i a8, .i a9, .i a10, .i a11, .i a12, .i a13, .i a14, .i a15, .i a16, .i a17, .i a18, .i a19, .i a20, .i a21, .i a22, .i a23, .i a24, .i a25, .i a26, .i a27, .i a28, .i e0, .i e1, .i e2, .i e3, .i 0, .i 0, .i 0, .i 0]) := rfl
      have Sk : ∀ k, k ≠ 0 → S k = (6, [.n m, .i k, .l g, .i (sK g 0 k), .i (sK g 1 k), .i (sK g 2 k), .i (sK g 3 k)]) := fun k hk => if_neg hk
      have hS : ∀ k, (S k).1 < 7 := fun k => by
        by_cases hk : k = 0
        · subst hk; show 1 < 7; omega
        · rw [Sk k hk]; show 6 < 7; omega
      have hs : ∀ k, k < m → k < 21 → f7_0 (S k) = some (S (k + 1)) ∨ f7_0 (S k) = some (7 + 9, [.b true, .l g, .i (sK g 0 k), .i (sK g 1 k), .i (sK g 2 k), .i (sK g 3 k), .l (List.take 4 (List.drop (k * 4) g))]) := by
        intro k hk h21
        by_cases hk0 : k = 0
        · subst hk0; exact Or.inl h1
        · rw [Sk k hk0, Sk (k + 1) (by omega)]
          exact round_N m g k hk h21 hg
      by_cases h21 : m ≤ 21
      · have main := loop_first (m := 7) (f := f7_0) S m (fun _ => 9) (fun k => [.b true, .l g, .i (sK g 0 k), .i (sK g 1 k), .i (sK g 2 k), .i (sK g 3 k), .l (List.take 4 (List.drop (k * 4) g))]) (fun _ => True) (jb := 8) (rb := [.n m, .l g, .i (sK g 0 m), .i (sK g 1 m), .i (sK g 2 m), .i (sK g 3 m)]) (fun k _ => hS k) (fun k hk => ?_) ?_ (by omega)
        · rcases main with ⟨h2, _⟩ | ⟨k, _, h2⟩
          · exact Or.inr (Or.inr (Or.inl ⟨h21, h2⟩))
          · exact Or.inr (Or.inr (Or.inr ⟨k, h2⟩))
        · rcases hs k hk (by omega) with h2 | h2
          · exact Or.inl ⟨h2, trivial⟩
          · exact Or.inr h2
        · rw [Sk m hm]; exact end_N m g
      · have main := loop_first (m := 7) (f := f7_0) S 21 (fun _ => 9) (fun k => [.b true, .l g, .i (sK g 0 k), .i (sK g 1 k), .i (sK g 2 k), .i (sK g 3 k), .l (List.take 4 (List.drop (k * 4) g))]) (fun _ => True) (jb := 9) (rb := [.b true, .l g, .i (sK g 0 21), .i (sK g 1 21), .i (sK g 2 21), .i (sK g 3 21), .l (List.take 4 (List.drop (21 * 4) g))]) (fun k _ => hS k) (fun k hk => ?_) ?_ (by omega)
        · rcases main with ⟨h2, _⟩ | ⟨k, _, h2⟩
          · exact Or.inr (Or.inr (Or.inr ⟨21, h2⟩))
          · exact Or.inr (Or.inr (Or.inr ⟨k, h2⟩))
        · rcases hs k (by omega) hk with h2 | h2
          · exact Or.inl ⟨h2, trivial⟩
          · exact Or.inr h2
        · rw [Sk 21 (by omega)]; exact cap_N m g (by omega) hg
    · exact Or.inr (Or.inl (loopL_last (m := 7) (f := f7_0) (j := 3) h1))
theorem accN1_N (a0 a1 a2 a3 a5 a6 a7 a8 a9 a10 a11 a12 a13 a14 a15 a16 a17 a18 a19 a20 a21 a22 a23 a24 a25 a26 a27 a28 : Int) (e0 e1 e2 e3 : Int) : L7_0 (3, [.i 0, .i a0, .i a1, .i a2, .i a3, .i a5, .i a6, .i a7, .i a8, .i a9, .i a10, .i a11, .i a12, .i a13, .i a14, .i a15, .i a16, .i a17, .i a18, .i a19, .i a20, .i a21, .i a22, .i a23, .i a24, .i a25, .i a26, .i a27, .i a28, .i e0, .i e1, .i e2, .i e3, .i 0, .i 0, .i 0, .i 0]) = some (5, [.i a0, .i a1, .i a2, .i a3, .i a5, .i a6, .i a7, .i a8, .i a9, .i a10, .i a11, .i a12, .i a13, .i a14, .i a15, .i a16, .i a17, .i a18, .i a19, .i a20, .i a21, .i a22, .i a23, .i a24, .i a25, .i a26, .i a27, .i a28, .i e0, .i e1, .i e2, .i e3, .i 0, .i 0, .i 0, .i 0]) := by
  exact loopL_last (m := 7) (f := f7_0) (j := 5) (by simp -implicitDefEqProofs only [f7_0, f7_0_3, asI_i, asI4_i, asN_n, asL_l, asB_b, asE_nil, Bool.cond_decide, Bool.cond_not, if_neg (Int.lt_irrefl _), if_neg (show ¬ (0 : Int) < ((0 : Nat) : Int) by omega)])
theorem accU1_N (a0 a1 a2 a3 a5 a6 a7 a8 a9 a10 a11 a12 a13 a14 a15 a16 a17 a18 a19 a20 a21 a22 a23 a24 a25 a26 a27 a28 : Int) (e0 e1 e2 e3 : Int) : L7_0 (5, [.n 0, .i 0, .i a0, .i a1, .i a2, .i a3, .i a5, .i a6, .i a7, .i a8, .i a9, .i a10, .i a11, .i a12, .i a13, .i a14, .i a15, .i a16, .i a17, .i a18, .i a19, .i a20, .i a21, .i a22, .i a23, .i a24, .i a25, .i a26, .i a27, .i a28, .i e0, .i e1, .i e2, .i e3, .i 0, .i 0, .i 0, .i 0]) = some (7, [.n 0, .i a0, .i a1, .i a2, .i a3, .i a5, .i a6, .i a7, .i a8, .i a9, .i a10, .i a11, .i a12, .i a13, .i a14, .i a15, .i a16, .i a17, .i a18, .i a19, .i a20, .i a21, .i a22, .i a23, .i a24, .i a25, .i a26, .i a27, .i a28, .i e0, .i e1, .i e2, .i e3, .i 0, .i 0, .i 0, .i 0]) := by
  exact loopL_last (m := 7) (f := f7_0) (j := 7) (by simp -implicitDefEqProofs only [f7_0, f7_0_5, asI_i, asI4_i, asN_n, asL_l, asB_b, asE_nil, Bool.cond_decide, Bool.cond_not, if_neg (Int.lt_irrefl _), if_neg (show ¬ (0 : Int) < ((0 : Nat) : Int) by omega)])
theorem few_N (a0 a1 a2 a3 a5 a6 a7 a8 a9 a10 a11 a12 a13 a14 a15 a16 a17 a18 a19 a20 a21 a22 a23 a24 a25 a26 a27 a28 : Int) : g19 (0, [.i a0, .i a1, .i a2, .i a3, .i a5, .i a6, .i a7, .i a8, .i a9, .i a10, .i a11, .i a12, .i a13, .i a14, .i a15, .i a16, .i a17, .i a18, .i a19, .i a20, .i a21, .i a22, .i a23, .i a24, .i a25, .i a26, .i a27, .i a28]) = some (0, [.i a0, .i a1, .i a2, .i a3, .i a5, .i a6, .i a7, .i a8, .i a9, .i a10, .i a11, .i a12, .i a13, .i a14, .i a15, .i a16, .i a17, .i a18, .i a19, .i a20, .i a21, .i a22, .i a23, .i a24, .i a25, .i a26, .i a27, .i a28]) := by
  simp -implicitDefEqProofs only [g19, g19_0, asI_i, asI4_i, asN_n, asL_l, asB_b, asE_nil, Bool.cond_decide, Bool.cond_not, if_neg (show ¬ (5 : Int) < ((0 : Nat) : Int) by omega)]
set_option maxHeartbeats 4000000 in
theorem lawV_N (a0 a1 a2 a3 a5 a6 a7 a8 a9 a10 a11 a12 a13 a14 a15 a16 a17 a18 a19 a20 a21 a22 a23 a24 a25 a26 a27 a28 size : Int) (m : Nat) (g : List Int) (hg : m * 4 ≤ g.length) : g7 (0, [.i a0, .i a1, .i a2, .i a3, .i a5, .i a6, .i a7, .i a8, .i a9, .i a10, .i a11, .i a12, .i a13, .i a14, .i a15, .i a16, .i a17, .i a18, .i a19, .i a20, .i a21, .i a22, .i a23, .i a24, .i a25, .i a26, .i a27, .i a28, .i size, .n m, .l g]) = some (0, [.b true, .l g]) := by
  have hf := few_N a0 a1 a2 a3 a5 a6 a7 a8 a9 a10 a11 a12 a13 a14 a15 a16 a17 a18 a19 a20 a21 a22 a23 a24 a25 a26 a27 a28 
  obtain ⟨b, hr⟩ := right_N a0 a1 a2 a3 a5 a6 a7 a8 a9 a10 a11 a12 a13 a14 a15 a16 a17 a18 a19 a20 a21 a22 a23 a24 a25 a26 a27 a28 
  cases b with
  | false =>
    rcases acc0_N a0 a1 a2 a3 a5 a6 a7 a8 a9 a10 a11 a12 a13 a14 a15 a16 a17 a18 a19 a20 a21 a22 a23 a24 a25 a26 a27 a28 m g hg with ⟨hm, hx⟩ | hx | ⟨hm, hx⟩ | ⟨k, hx⟩
    · subst hm
      have hs := sum_N 0 g (by omega) hg
      simp -implicitDefEqProofs only [sK] at hs
      simp -implicitDefEqProofs only [g7, g7_0, asI_i, asI4_i, asN_n, asL_l, asB_b, asE_nil, Bool.cond_decide, Bool.cond_not, altK_0, altK_1, altK_2, altK_3, altK_4, altK_5, altK_6, altK_N7, altK_N8, altK_N9, altK_N10, hf, hr, cond_true, cond_false, if_true, decide_true, awakeL_ok, if_true, hx, hs]
    · simp -implicitDefEqProofs only [g7, g7_0, asI_i, asI4_i, asN_n, asL_l, asB_b, asE_nil, Bool.cond_decide, Bool.cond_not, altK_0, altK_1, altK_2, altK_3, altK_4, altK_5, altK_6, altK_N7, altK_N8, altK_N9, altK_N10, hf, hr, cond_true, cond_false, if_true, decide_true, awakeL_ok, if_true, hx]
    · have hs := sum_N m g (by omega) hg
      simp -implicitDefEqProofs only [g7, g7_0, asI_i, asI4_i, asN_n, asL_l, asB_b, asE_nil, Bool.cond_decide, Bool.cond_not, altK_0, altK_1, altK_2, altK_3, altK_4, altK_5, altK_6, altK_N7, altK_N8, altK_N9, altK_N10, hf, hr, cond_true, cond_false, if_true, decide_true, awakeL_ok, if_true, hx, hs]
    · simp -implicitDefEqProofs only [g7, g7_0, asI_i, asI4_i, asN_n, asL_l, asB_b, asE_nil, Bool.cond_decide, Bool.cond_not, altK_0, altK_1, altK_2, altK_3, altK_4, altK_5, altK_6, altK_N7, altK_N8, altK_N9, altK_N10, hf, hr, cond_true, cond_false, if_true, decide_true, awakeL_ok, if_true, hx]
  | true =>
    by_cases c1 : (0 : Int) ≤ size
    · by_cases c2 : size ≤ 1048576
      · have ho := of_N size a0 a1 a2 a3 a5 a6 a7 a8 a9 a10 a11 a12 a13 a14 a15 a16 a17 a18 a19 a20 a21 a22 a23 a24 a25 a26 a27 a28 
        have e1 : cK [a9, a10, a11, a12] 4 = IntKind.i64.wrap (4 * IntKind.i64.wrap (IntKind.i64.wrap (IntKind.i64.wrap (a9 + a10) + a11) + a12)) := cost_eq a9 a10 a11 a12
        have e2 := left_eq size (0) (cK [a9, a10, a11, a12] 4)
        have hne : ∀ x : Int, (x ≠ x) = False := fun x => eq_false (fun h => h rfl)
        have e0 : IntKind.i64.wrap (28 * 0) = 0 := rfl
        rw [e1] at ho e2
        rcases acc1_N a0 a1 a2 a3 a5 a6 a7 a8 a9 a10 a11 a12 a13 a14 a15 a16 a17 a18 a19 a20 a21 a22 a23 a24 a25 a26 a27 a28 52 (0) (IntKind.i64.wrap (4 * IntKind.i64.wrap (IntKind.i64.wrap (IntKind.i64.wrap (a9 + a10) + a11) + a12))) (IntKind.i64.wrap (IntKind.i64.wrap (IntKind.i64.wrap (IntKind.i64.wrap (8 * size) - 52) - 0) - IntKind.i64.wrap (4 * IntKind.i64.wrap (IntKind.i64.wrap (IntKind.i64.wrap (a9 + a10) + a11) + a12)))) m g hg with ⟨hm, hx⟩ | hx | ⟨hm, hx⟩ | ⟨k, hx⟩
        · subst hm
          have hs := sum_N 0 g (by omega) hg
          simp -implicitDefEqProofs only [sK] at hs
          simp -implicitDefEqProofs only [g7, g7_0, asI_i, asI4_i, asN_n, asL_l, asB_b, asE_nil, Bool.cond_decide, Bool.cond_not, altK_0, altK_1, altK_2, altK_3, altK_4, altK_5, altK_6, altK_N7, altK_N8, altK_N9, altK_N10, hf, hr, cond_true, cond_false, if_true, decide_true, awakeL_ok, if_pos c1, if_pos c2, ho, e2, hne, decide_false, if_false, e0, hx, hs]
        · simp -implicitDefEqProofs only [g7, g7_0, asI_i, asI4_i, asN_n, asL_l, asB_b, asE_nil, Bool.cond_decide, Bool.cond_not, altK_0, altK_1, altK_2, altK_3, altK_4, altK_5, altK_6, altK_N7, altK_N8, altK_N9, altK_N10, hf, hr, cond_true, cond_false, if_true, decide_true, awakeL_ok, if_pos c1, if_pos c2, ho, e2, hne, decide_false, if_false, e0, hx]
        · have hs := sum_N m g (by omega) hg
          simp -implicitDefEqProofs only [g7, g7_0, asI_i, asI4_i, asN_n, asL_l, asB_b, asE_nil, Bool.cond_decide, Bool.cond_not, altK_0, altK_1, altK_2, altK_3, altK_4, altK_5, altK_6, altK_N7, altK_N8, altK_N9, altK_N10, hf, hr, cond_true, cond_false, if_true, decide_true, awakeL_ok, if_pos c1, if_pos c2, ho, e2, hne, decide_false, if_false, e0, hx, hs]
        · simp -implicitDefEqProofs only [g7, g7_0, asI_i, asI4_i, asN_n, asL_l, asB_b, asE_nil, Bool.cond_decide, Bool.cond_not, altK_0, altK_1, altK_2, altK_3, altK_4, altK_5, altK_6, altK_N7, altK_N8, altK_N9, altK_N10, hf, hr, cond_true, cond_false, if_true, decide_true, awakeL_ok, if_pos c1, if_pos c2, ho, e2, hne, decide_false, if_false, e0, hx]
      · skip
        rcases acc0_N a0 a1 a2 a3 a5 a6 a7 a8 a9 a10 a11 a12 a13 a14 a15 a16 a17 a18 a19 a20 a21 a22 a23 a24 a25 a26 a27 a28 m g hg with ⟨hm, hx⟩ | hx | ⟨hm, hx⟩ | ⟨k, hx⟩
        · subst hm
          have hs := sum_N 0 g (by omega) hg
          simp -implicitDefEqProofs only [sK] at hs
          simp -implicitDefEqProofs only [g7, g7_0, asI_i, asI4_i, asN_n, asL_l, asB_b, asE_nil, Bool.cond_decide, Bool.cond_not, altK_0, altK_1, altK_2, altK_3, altK_4, altK_5, altK_6, altK_N7, altK_N8, altK_N9, altK_N10, hf, hr, cond_true, cond_false, if_true, decide_true, awakeL_ok, if_pos c1, if_neg c2, hx, hs]
        · simp -implicitDefEqProofs only [g7, g7_0, asI_i, asI4_i, asN_n, asL_l, asB_b, asE_nil, Bool.cond_decide, Bool.cond_not, altK_0, altK_1, altK_2, altK_3, altK_4, altK_5, altK_6, altK_N7, altK_N8, altK_N9, altK_N10, hf, hr, cond_true, cond_false, if_true, decide_true, awakeL_ok, if_pos c1, if_neg c2, hx]
        · have hs := sum_N m g (by omega) hg
          simp -implicitDefEqProofs only [g7, g7_0, asI_i, asI4_i, asN_n, asL_l, asB_b, asE_nil, Bool.cond_decide, Bool.cond_not, altK_0, altK_1, altK_2, altK_3, altK_4, altK_5, altK_6, altK_N7, altK_N8, altK_N9, altK_N10, hf, hr, cond_true, cond_false, if_true, decide_true, awakeL_ok, if_pos c1, if_neg c2, hx, hs]
        · simp -implicitDefEqProofs only [g7, g7_0, asI_i, asI4_i, asN_n, asL_l, asB_b, asE_nil, Bool.cond_decide, Bool.cond_not, altK_0, altK_1, altK_2, altK_3, altK_4, altK_5, altK_6, altK_N7, altK_N8, altK_N9, altK_N10, hf, hr, cond_true, cond_false, if_true, decide_true, awakeL_ok, if_pos c1, if_neg c2, hx]
    · skip
      rcases acc0_N a0 a1 a2 a3 a5 a6 a7 a8 a9 a10 a11 a12 a13 a14 a15 a16 a17 a18 a19 a20 a21 a22 a23 a24 a25 a26 a27 a28 m g hg with ⟨hm, hx⟩ | hx | ⟨hm, hx⟩ | ⟨k, hx⟩
      · subst hm
        have hs := sum_N 0 g (by omega) hg
        simp -implicitDefEqProofs only [sK] at hs
        simp -implicitDefEqProofs only [g7, g7_0, asI_i, asI4_i, asN_n, asL_l, asB_b, asE_nil, Bool.cond_decide, Bool.cond_not, altK_0, altK_1, altK_2, altK_3, altK_4, altK_5, altK_6, altK_N7, altK_N8, altK_N9, altK_N10, hf, hr, cond_true, cond_false, if_true, decide_true, awakeL_ok, if_neg c1, hx, hs]
      · simp -implicitDefEqProofs only [g7, g7_0, asI_i, asI4_i, asN_n, asL_l, asB_b, asE_nil, Bool.cond_decide, Bool.cond_not, altK_0, altK_1, altK_2, altK_3, altK_4, altK_5, altK_6, altK_N7, altK_N8, altK_N9, altK_N10, hf, hr, cond_true, cond_false, if_true, decide_true, awakeL_ok, if_neg c1, hx]
      · have hs := sum_N m g (by omega) hg
        simp -implicitDefEqProofs only [g7, g7_0, asI_i, asI4_i, asN_n, asL_l, asB_b, asE_nil, Bool.cond_decide, Bool.cond_not, altK_0, altK_1, altK_2, altK_3, altK_4, altK_5, altK_6, altK_N7, altK_N8, altK_N9, altK_N10, hf, hr, cond_true, cond_false, if_true, decide_true, awakeL_ok, if_neg c1, hx, hs]
      · simp -implicitDefEqProofs only [g7, g7_0, asI_i, asI4_i, asN_n, asL_l, asB_b, asE_nil, Bool.cond_decide, Bool.cond_not, altK_0, altK_1, altK_2, altK_3, altK_4, altK_5, altK_6, altK_N7, altK_N8, altK_N9, altK_N10, hf, hr, cond_true, cond_false, if_true, decide_true, awakeL_ok, if_neg c1, hx]
set_option maxHeartbeats 4000000 in
theorem lawN_N (a0 a1 a2 a3 a5 a6 a7 a8 a9 a10 a11 a12 a13 a14 a15 a16 a17 a18 a19 a20 a21 a22 a23 a24 a25 a26 a27 a28 size : Int) : g7 (1, [.i a0, .i a1, .i a2, .i a3, .i a5, .i a6, .i a7, .i a8, .i a9, .i a10, .i a11, .i a12, .i a13, .i a14, .i a15, .i a16, .i a17, .i a18, .i a19, .i a20, .i a21, .i a22, .i a23, .i a24, .i a25, .i a26, .i a27, .i a28, .i size]) = some (1, [.b true]) := by
  have hf := few_N a0 a1 a2 a3 a5 a6 a7 a8 a9 a10 a11 a12 a13 a14 a15 a16 a17 a18 a19 a20 a21 a22 a23 a24 a25 a26 a27 a28 
  obtain ⟨b, hr⟩ := right_N a0 a1 a2 a3 a5 a6 a7 a8 a9 a10 a11 a12 a13 a14 a15 a16 a17 a18 a19 a20 a21 a22 a23 a24 a25 a26 a27 a28 
  cases b with
  | false =>
    have hx := accN0_N a0 a1 a2 a3 a5 a6 a7 a8 a9 a10 a11 a12 a13 a14 a15 a16 a17 a18 a19 a20 a21 a22 a23 a24 a25 a26 a27 a28 
    simp -implicitDefEqProofs only [g7, g7_1, asI_i, asI4_i, asN_n, asL_l, asB_b, asE_nil, Bool.cond_decide, Bool.cond_not, altK_0, altK_1, altK_2, altK_3, altK_4, altK_5, altK_6, altK_N7, altK_N8, altK_N9, altK_N10, hf, hr, cond_true, cond_false, if_true, decide_true, awakeL_ok, if_true, hx, sumN_N]
  | true =>
    by_cases c1 : (0 : Int) ≤ size
    · by_cases c2 : size ≤ 1048576
      · have ho := of_N size a0 a1 a2 a3 a5 a6 a7 a8 a9 a10 a11 a12 a13 a14 a15 a16 a17 a18 a19 a20 a21 a22 a23 a24 a25 a26 a27 a28 
        have e1 : cK [a9, a10, a11, a12] 4 = IntKind.i64.wrap (4 * IntKind.i64.wrap (IntKind.i64.wrap (IntKind.i64.wrap (a9 + a10) + a11) + a12)) := cost_eq a9 a10 a11 a12
        have e2 := left_eq size (0) (cK [a9, a10, a11, a12] 4)
        have hne : ∀ x : Int, (x ≠ x) = False := fun x => eq_false (fun h => h rfl)
        have e0 : IntKind.i64.wrap (28 * 0) = 0 := rfl
        rw [e1] at ho e2
        have hx := accN1_N a0 a1 a2 a3 a5 a6 a7 a8 a9 a10 a11 a12 a13 a14 a15 a16 a17 a18 a19 a20 a21 a22 a23 a24 a25 a26 a27 a28 52 (0) (IntKind.i64.wrap (4 * IntKind.i64.wrap (IntKind.i64.wrap (IntKind.i64.wrap (a9 + a10) + a11) + a12))) (IntKind.i64.wrap (IntKind.i64.wrap (IntKind.i64.wrap (IntKind.i64.wrap (8 * size) - 52) - 0) - IntKind.i64.wrap (4 * IntKind.i64.wrap (IntKind.i64.wrap (IntKind.i64.wrap (a9 + a10) + a11) + a12)))) 
        simp -implicitDefEqProofs only [g7, g7_1, asI_i, asI4_i, asN_n, asL_l, asB_b, asE_nil, Bool.cond_decide, Bool.cond_not, altK_0, altK_1, altK_2, altK_3, altK_4, altK_5, altK_6, altK_N7, altK_N8, altK_N9, altK_N10, hf, hr, cond_true, cond_false, if_true, decide_true, awakeL_ok, if_pos c1, if_pos c2, ho, e2, hne, decide_false, if_false, e0, hx, sumN_N]
      · skip
        have hx := accN0_N a0 a1 a2 a3 a5 a6 a7 a8 a9 a10 a11 a12 a13 a14 a15 a16 a17 a18 a19 a20 a21 a22 a23 a24 a25 a26 a27 a28 
        simp -implicitDefEqProofs only [g7, g7_1, asI_i, asI4_i, asN_n, asL_l, asB_b, asE_nil, Bool.cond_decide, Bool.cond_not, altK_0, altK_1, altK_2, altK_3, altK_4, altK_5, altK_6, altK_N7, altK_N8, altK_N9, altK_N10, hf, hr, cond_true, cond_false, if_true, decide_true, awakeL_ok, if_pos c1, if_neg c2, hx, sumN_N]
    · skip
      have hx := accN0_N a0 a1 a2 a3 a5 a6 a7 a8 a9 a10 a11 a12 a13 a14 a15 a16 a17 a18 a19 a20 a21 a22 a23 a24 a25 a26 a27 a28 
      simp -implicitDefEqProofs only [g7, g7_1, asI_i, asI4_i, asN_n, asL_l, asB_b, asE_nil, Bool.cond_decide, Bool.cond_not, altK_0, altK_1, altK_2, altK_3, altK_4, altK_5, altK_6, altK_N7, altK_N8, altK_N9, altK_N10, hf, hr, cond_true, cond_false, if_true, decide_true, awakeL_ok, if_neg c1, hx, sumN_N]
set_option maxHeartbeats 4000000 in
theorem lawU_N (a0 a1 a2 a3 a5 a6 a7 a8 a9 a10 a11 a12 a13 a14 a15 a16 a17 a18 a19 a20 a21 a22 a23 a24 a25 a26 a27 a28 size : Int) : g7 (2, [.i a0, .i a1, .i a2, .i a3, .i a5, .i a6, .i a7, .i a8, .i a9, .i a10, .i a11, .i a12, .i a13, .i a14, .i a15, .i a16, .i a17, .i a18, .i a19, .i a20, .i a21, .i a22, .i a23, .i a24, .i a25, .i a26, .i a27, .i a28, .i size, .n 0]) = some (2, [.b true]) := by
  have hf := few_N a0 a1 a2 a3 a5 a6 a7 a8 a9 a10 a11 a12 a13 a14 a15 a16 a17 a18 a19 a20 a21 a22 a23 a24 a25 a26 a27 a28 
  obtain ⟨b, hr⟩ := right_N a0 a1 a2 a3 a5 a6 a7 a8 a9 a10 a11 a12 a13 a14 a15 a16 a17 a18 a19 a20 a21 a22 a23 a24 a25 a26 a27 a28 
  cases b with
  | false =>
    have hx := accU0_N a0 a1 a2 a3 a5 a6 a7 a8 a9 a10 a11 a12 a13 a14 a15 a16 a17 a18 a19 a20 a21 a22 a23 a24 a25 a26 a27 a28 
    simp -implicitDefEqProofs only [g7, g7_2, asI_i, asI4_i, asN_n, asL_l, asB_b, asE_nil, Bool.cond_decide, Bool.cond_not, altK_0, altK_1, altK_2, altK_3, altK_4, altK_5, altK_6, altK_N7, altK_N8, altK_N9, altK_N10, hf, hr, cond_true, cond_false, if_true, decide_true, awakeL_ok, if_true, hx, sumU_N]
  | true =>
    by_cases c1 : (0 : Int) ≤ size
    · by_cases c2 : size ≤ 1048576
      · have ho := of_N size a0 a1 a2 a3 a5 a6 a7 a8 a9 a10 a11 a12 a13 a14 a15 a16 a17 a18 a19 a20 a21 a22 a23 a24 a25 a26 a27 a28 
        have e1 : cK [a9, a10, a11, a12] 4 = IntKind.i64.wrap (4 * IntKind.i64.wrap (IntKind.i64.wrap (IntKind.i64.wrap (a9 + a10) + a11) + a12)) := cost_eq a9 a10 a11 a12
        have e2 := left_eq size (0) (cK [a9, a10, a11, a12] 4)
        have hne : ∀ x : Int, (x ≠ x) = False := fun x => eq_false (fun h => h rfl)
        have e0 : IntKind.i64.wrap (28 * 0) = 0 := rfl
        rw [e1] at ho e2
        have hx := accU1_N a0 a1 a2 a3 a5 a6 a7 a8 a9 a10 a11 a12 a13 a14 a15 a16 a17 a18 a19 a20 a21 a22 a23 a24 a25 a26 a27 a28 52 (0) (IntKind.i64.wrap (4 * IntKind.i64.wrap (IntKind.i64.wrap (IntKind.i64.wrap (a9 + a10) + a11) + a12))) (IntKind.i64.wrap (IntKind.i64.wrap (IntKind.i64.wrap (IntKind.i64.wrap (8 * size) - 52) - 0) - IntKind.i64.wrap (4 * IntKind.i64.wrap (IntKind.i64.wrap (IntKind.i64.wrap (a9 + a10) + a11) + a12)))) 
        simp -implicitDefEqProofs only [g7, g7_2, asI_i, asI4_i, asN_n, asL_l, asB_b, asE_nil, Bool.cond_decide, Bool.cond_not, altK_0, altK_1, altK_2, altK_3, altK_4, altK_5, altK_6, altK_N7, altK_N8, altK_N9, altK_N10, hf, hr, cond_true, cond_false, if_true, decide_true, awakeL_ok, if_pos c1, if_pos c2, ho, e2, hne, decide_false, if_false, e0, hx, sumU_N]
      · skip
        have hx := accU0_N a0 a1 a2 a3 a5 a6 a7 a8 a9 a10 a11 a12 a13 a14 a15 a16 a17 a18 a19 a20 a21 a22 a23 a24 a25 a26 a27 a28 
        simp -implicitDefEqProofs only [g7, g7_2, asI_i, asI4_i, asN_n, asL_l, asB_b, asE_nil, Bool.cond_decide, Bool.cond_not, altK_0, altK_1, altK_2, altK_3, altK_4, altK_5, altK_6, altK_N7, altK_N8, altK_N9, altK_N10, hf, hr, cond_true, cond_false, if_true, decide_true, awakeL_ok, if_pos c1, if_neg c2, hx, sumU_N]
    · skip
      have hx := accU0_N a0 a1 a2 a3 a5 a6 a7 a8 a9 a10 a11 a12 a13 a14 a15 a16 a17 a18 a19 a20 a21 a22 a23 a24 a25 a26 a27 a28 
      simp -implicitDefEqProofs only [g7, g7_2, asI_i, asI4_i, asN_n, asL_l, asB_b, asE_nil, Bool.cond_decide, Bool.cond_not, altK_0, altK_1, altK_2, altK_3, altK_4, altK_5, altK_6, altK_N7, altK_N8, altK_N9, altK_N10, hf, hr, cond_true, cond_false, if_true, decide_true, awakeL_ok, if_neg c1, hx, sumU_N]
theorem evV_N (a0 a1 a2 a3 a5 a6 a7 a8 a9 a10 a11 a12 a13 a14 a15 a16 a17 a18 a19 a20 a21 a22 a23 a24 a25 a26 a27 a28 size : Int) (m : Nat) (g : List Int) (hg : g.length = m * 4) : ∃ d, evF tab d 7 [.agg [.int .i64 a0, .int .i64 a1, .int .i64 a2, .int .i64 a3, .nils, .int .i64 a5, .int .i64 a6, .int .i64 a7, .int .i64 a8, .int .i64 a9, .int .i64 a10, .int .i64 a11, .int .i64 a12, .int .i64 a13, .int .i64 a14, .int .i64 a15, .int .i64 a16, .int .i64 a17, .int .i64 a18, .int .i64 a19, .int .i64 a20, .int .i64 a21, .int .i64 a22, .int .i64 a23, .int .i64 a24, .int .i64 a25, .int .i64 a26, .int .i64 a27, .int .i64 a28], .int .i64 size, .slice 0 0 m 4] [⟨false, .ints .i64 g⟩] = some (.bool true, [⟨false, .ints .i64 g⟩], []) :=
  ⟨_, (ok7 0).ret (i := 0) (ls := [.i a0, .i a1, .i a2, .i a3, .i a5, .i a6, .i a7, .i a8, .i a9, .i a10, .i a11, .i a12, .i a13, .i a14, .i a15, .i a16, .i a17, .i a18, .i a19, .i a20, .i a21, .i a22, .i a23, .i a24, .i a25, .i a26, .i a27, .i a28, .i size, .n m, .l g]) (j := 0) (r := [.b true, .l g]) (lawV_N a0 a1 a2 a3 a5 a6 a7 a8 a9 a10 a11 a12 a13 a14 a15 a16 a17 a18 a19 a20 a21 a22 a23 a24 a25 a26 a27 a28 size m g (by omega)) rfl rfl rfl rfl⟩
theorem evN_N (a0 a1 a2 a3 a5 a6 a7 a8 a9 a10 a11 a12 a13 a14 a15 a16 a17 a18 a19 a20 a21 a22 a23 a24 a25 a26 a27 a28 size : Int) : ∃ d, evF tab d 7 [.agg [.int .i64 a0, .int .i64 a1, .int .i64 a2, .int .i64 a3, .nils, .int .i64 a5, .int .i64 a6, .int .i64 a7, .int .i64 a8, .int .i64 a9, .int .i64 a10, .int .i64 a11, .int .i64 a12, .int .i64 a13, .int .i64 a14, .int .i64 a15, .int .i64 a16, .int .i64 a17, .int .i64 a18, .int .i64 a19, .int .i64 a20, .int .i64 a21, .int .i64 a22, .int .i64 a23, .int .i64 a24, .int .i64 a25, .int .i64 a26, .int .i64 a27, .int .i64 a28], .int .i64 size, .nils] [] = some (.bool true, [], []) :=
  ⟨_, (ok7 0).ret (i := 1) (ls := [.i a0, .i a1, .i a2, .i a3, .i a5, .i a6, .i a7, .i a8, .i a9, .i a10, .i a11, .i a12, .i a13, .i a14, .i a15, .i a16, .i a17, .i a18, .i a19, .i a20, .i a21, .i a22, .i a23, .i a24, .i a25, .i a26, .i a27, .i a28, .i size]) (j := 1) (r := [.b true]) (lawN_N a0 a1 a2 a3 a5 a6 a7 a8 a9 a10 a11 a12 a13 a14 a15 a16 a17 a18 a19 a20 a21 a22 a23 a24 a25 a26 a27 a28 size) rfl rfl rfl rfl⟩
theorem evU_N (a0 a1 a2 a3 a5 a6 a7 a8 a9 a10 a11 a12 a13 a14 a15 a16 a17 a18 a19 a20 a21 a22 a23 a24 a25 a26 a27 a28 size : Int) : ∃ d, evF tab d 7 [.agg [.int .i64 a0, .int .i64 a1, .int .i64 a2, .int .i64 a3, .nils, .int .i64 a5, .int .i64 a6, .int .i64 a7, .int .i64 a8, .int .i64 a9, .int .i64 a10, .int .i64 a11, .int .i64 a12, .int .i64 a13, .int .i64 a14, .int .i64 a15, .int .i64 a16, .int .i64 a17, .int .i64 a18, .int .i64 a19, .int .i64 a20, .int .i64 a21, .int .i64 a22, .int .i64 a23, .int .i64 a24, .int .i64 a25, .int .i64 a26, .int .i64 a27, .int .i64 a28], .int .i64 size, .slice 0 0 0 4] [⟨true, .unk⟩] = some (.bool true, [⟨true, .unk⟩], []) :=
  ⟨_, (ok7 0).ret (i := 2) (ls := [.i a0, .i a1, .i a2, .i a3, .i a5, .i a6, .i a7, .i a8, .i a9, .i a10, .i a11, .i a12, .i a13, .i a14, .i a15, .i a16, .i a17, .i a18, .i a19, .i a20, .i a21, .i a22, .i a23, .i a24, .i a25, .i a26, .i a27, .i a28, .i size, .n 0]) (j := 2) (r := [.b true]) (lawU_N a0 a1 a2 a3 a5 a6 a7 a8 a9 a10 a11 a12 a13 a14 a15 a16 a17 a18 a19 a20 a21 a22 a23 a24 a25 a26 a27 a28 size) rfl rfl rfl rfl⟩
end Go.Proofs.Ytmghafpbaigkaaa
