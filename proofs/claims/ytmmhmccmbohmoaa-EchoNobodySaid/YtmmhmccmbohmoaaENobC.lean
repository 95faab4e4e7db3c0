/-
  The law of a nil echo, and of what a tail is. Conditions: none.
-/
import Derived.Test.YtmmhmccmbohmoaaEndsC
namespace Go.Proofs.Ytmmhmccmbohmoaa
open Go Go.Sx C
set_option maxRecDepth 100000
set_option linter.unusedVariables false
attribute [local simp] asI_i asB_b asL_l asN_n asS_s asE_nil altK_none altK_0 altK_1 altK_2 altK_3 optK_some optK_none Bool.cond_decide Bool.cond_not Int.toNat_natCast
set_option linter.unusedSimpArgs false
theorem altK_7w {α : Type} (r : List Leaf) (k0 k1 k2 k3 k4 k5 k6 k7 : List Leaf → α) (ks : List (List Leaf → α)) (z : α) : altK (some (7, r)) (k0 :: k1 :: k2 :: k3 :: k4 :: k5 :: k6 :: k7 :: ks) z = k7 r := rfl
theorem altK_8w {α : Type} (r : List Leaf) (k0 k1 k2 k3 k4 k5 k6 k7 k8 : List Leaf → α) (ks : List (List Leaf → α)) (z : α) : altK (some (8, r)) (k0 :: k1 :: k2 :: k3 :: k4 :: k5 :: k6 :: k7 :: k8 :: ks) z = k8 r := rfl
theorem altK_9w {α : Type} (r : List Leaf) (k0 k1 k2 k3 k4 k5 k6 k7 k8 k9 : List Leaf → α) (ks : List (List Leaf → α)) (z : α) : altK (some (9, r)) (k0 :: k1 :: k2 :: k3 :: k4 :: k5 :: k6 :: k7 :: k8 :: k9 :: ks) z = k9 r := rfl
theorem altK_10w {α : Type} (r : List Leaf) (k0 k1 k2 k3 k4 k5 k6 k7 k8 k9 k10 : List Leaf → α) (ks : List (List Leaf → α)) (z : α) : altK (some (10, r)) (k0 :: k1 :: k2 :: k3 :: k4 :: k5 :: k6 :: k7 :: k8 :: k9 :: k10 :: ks) z = k10 r := rfl
theorem altK_11w {α : Type} (r : List Leaf) (k0 k1 k2 k3 k4 k5 k6 k7 k8 k9 k10 k11 : List Leaf → α) (ks : List (List Leaf → α)) (z : α) : altK (some (11, r)) (k0 :: k1 :: k2 :: k3 :: k4 :: k5 :: k6 :: k7 :: k8 :: k9 :: k10 :: k11 :: ks) z = k11 r := rfl
theorem next_nil (v : Int) : g11 (1, [.i v]) = some (1, [.i v]) := by
  simp -implicitDefEqProofs only [g11, g11_1, asI_i, asE_nil]
theorem silent_nil : g13 (1, []) = some (0, []) := by
  simp -implicitDefEqProofs only [g13, g13_1, asE_nil]
theorem tail_0 (D : Nat) (b w p m : Int) (R : List Int) (h : m ≤ 0) : g17 (0, [.i m, .i D, .i b, .i w, .n D, .i p, .l R]) = some (0, [.i D, .i b, .i w, .n D, .i p, .l R]) := by
  have hl : L17_0 (0, [.i 0, .i 0, .i D, .i b, .i w, .n D, .i p, .l R]) = some (0, [.i D, .i b, .i w, .n D, .i p, .l R]) := loopL_last (m := 2) (f := f17_0) (j := 0) (by
    simp -implicitDefEqProofs only [f17_0, f17_0_0, asI_i, asN_n, asL_l, asE_nil, Bool.cond_decide, if_neg (Int.lt_irrefl _)])
  have e : (if (0 : Int) > m then (0 : Int) else m) = 0 := by split <;> omega
  simp -implicitDefEqProofs only [g17, g17_0, asI_i, asN_n, asL_l, asE_nil, e, hl, altK_0]
theorem nil_loop (h0 L : List Int) (N : Nat) (hN : L.length = N) (hm : N ≤ 150) (m D b w : Int) :
    L5_0 (1, [.n N, .i m, .i 0, .l h0, .i D, .i b, .i w, .l L]) = some (1, [.n N, .i m, .l h0, .i D, .i b, .i w, .l L]) := by
  refine loopL_run (m := 4) (f := f5_0) (fun k => (1, [.n N, .i m, .i k, .l h0, .i D, .i b, .i w, .l L])) N (fun k hk => ⟨?_, by show 1 < 4; omega⟩) ?_ (by omega)
  · have hx : L[k]? = some (L.getD k 0) := get_some (by omega)
    generalize L.getD k 0 = v at *
    have hne : ∀ x : Int, (x ≠ x) = False := fun x => by simp
    have w2 : IntKind.i64.wrap ((k : Int) + 1) = ((k + 1 : Nat) : Int) := wrap_nat (n := k + 1) (by omega)
    have k1 : (k : Int) < N := by omega
    have k3 : (0 : Int) ≤ k ∧ (k : Int) < N := by omega
    simp -implicitDefEqProofs only [f5_0, f5_0_1, asI_i, asN_n, asL_l, asE_nil, Bool.cond_decide, if_pos k1, if_pos k3, Int.toNat_natCast, hx, optK_some, next_nil, altK_1, hne, if_false, w2]
  · simp -implicitDefEqProofs only [f5_0, f5_0_1, asI_i, asN_n, asL_l, asE_nil, Bool.cond_decide, if_neg (Int.lt_irrefl _)]
theorem tail_loop_e (h : List Int) {D : Nat} (hD : 1 ≤ D ∧ D ≤ 4096) {b w : Int} (hb : 0 ≤ b ∧ b ≤ 256) (hw : 0 ≤ w ∧ w ≤ 256) (F : Nat → Int) (N M : Nat) (hF : ∀ k, N ≤ k → F k = 0) (hM : M ≤ 150) (p : Int) (R : List Int) :
    L5_1 (1, [.i M, .n M, .i 0, .l h, .i D, .i b, .i w, .i D, .i b, .i w, .n D, .i p, .l R, .i D, .i b, .i w, .n D, .i (N % D : Nat), .l (ring D b F N), .l (tells D b w F N M)]) = some (1, [.l h, .i D, .i b, .i w, .i D, .i b, .i w, .n D, .i p, .l R, .i D, .i b, .i w, .n D, .i ((N + M) % D : Nat), .l (ring D b F (N + M)), .l (tells D b w F N M)]) := by
  refine loopL_run (m := 8) (f := f5_1) (fun k => (1, [.i M, .n M, .i k, .l h, .i D, .i b, .i w, .i D, .i b, .i w, .n D, .i p, .l R, .i D, .i b, .i w, .n D, .i ((N + k) % D : Nat), .l (ring D b F (N + k)), .l (tells D b w F N M)])) M (fun k hk => ⟨?_, by show 1 < 8; omega⟩) ?_ (by omega)
  · have hx := tells_get D b w F N hk
    have hz := hF (N + k) (by omega)
    have hn := next_ok hD hb hw F (N + k) (by rw [hz]; unfold Small; omega)
    rw [hz] at hn
    have hne : ∀ x : Int, (x ≠ x) = False := fun x => by simp
    have w2 : IntKind.i64.wrap ((k : Int) + 1) = ((k + 1 : Nat) : Int) := wrap_nat (n := k + 1) (by omega)
    have k1 : (k : Int) < M := by omega
    have k3 : (0 : Int) ≤ k ∧ (k : Int) < M := by omega
    simp -implicitDefEqProofs only [f5_1, f5_1_1, asI_i, asN_n, asL_l, asE_nil, Bool.cond_decide, if_pos k1, if_pos k3, Int.toNat_natCast, hx, optK_some, hn, altK_0, hne, if_false, w2, Nat.add_assoc]
  · simp -implicitDefEqProofs only [f5_1, f5_1_1, asI_i, asN_n, asL_l, asE_nil, Bool.cond_decide, if_neg (Int.lt_irrefl _)]
theorem tail_none_e (h : List Int) (D : Nat) (b w : Int) (p q : Int) (R Q : List Int) :
    L5_1 (0, [.i 0, .i 0, .l h, .i D, .i b, .i w, .i D, .i b, .i w, .n D, .i p, .l R, .i D, .i b, .i w, .n D, .i q, .l Q]) = some (0, [.l h, .i D, .i b, .i w, .i D, .i b, .i w, .n D, .i p, .l R, .i D, .i b, .i w, .n D, .i q, .l Q]) := loopL_last (m := 8) (f := f5_1) (j := 0) (by
    simp -implicitDefEqProofs only [f5_1, f5_1_0, asI_i, asN_n, asL_l, asE_nil, Bool.cond_decide, if_neg (Int.lt_irrefl _)])
theorem nil_none_e (h : List Int) (m D b w : Int) : L5_0 (0, [.i m, .i 0, .l h, .i D, .i b, .i w]) = some (0, [.i m, .l h, .i D, .i b, .i w]) := loopL_last (m := 4) (f := f5_0) (j := 0) (by
    simp -implicitDefEqProofs only [f5_0, f5_0_0, asI_i, asN_n, asL_l, asE_nil, Bool.cond_decide, if_neg (Int.lt_irrefl _)])
theorem nob_e_yes (Di b w m : Int) (h : List Int) (hr : RightE Di b w) : g5 (0, [.i Di, .i b, .i w, .n 0, .i m, .l h]) = some (0, [.b true, .l h]) := by
  have hne : ∀ x : Int, (x ≠ x) = False := fun x => by simp
  have hh := hr
  unfold RightE at hh
  obtain ⟨D, rfl⟩ : ∃ D : Nat, Di = D := ⟨Di.toNat, by omega⟩
  obtain ⟨F, hFe⟩ : ∃ F : Nat → Int, F = fun _ => 0 := ⟨_, rfl⟩
  have hF0 : ∀ k, 0 ≤ k → F k = 0 := fun k _ => by rw [hFe]
  have z0 : (0 : Nat) % D = 0 := Nat.zero_mod _
  by_cases c : 150 < m
  · have h150 : (((150 : Nat) : Int) ≠ 150) = False := by simp
    have ht := tail_ok (D := D) (by omega) (b := b) (w := w) (by omega) (by omega) 0 150 (by omega) (by omega) F hF0
    have hl := tail_loop_e h (D := D) (by omega) (b := b) (w := w) (by omega) (by omega) F 0 150 hF0 (by omega) ((0 + 150) % D : Nat) (ring D b F (0 + 150))
    rw [z0] at ht hl
    have ht' : g17 (0, [.i 150, .i D, .i b, .i w, .n D, .i 0, .l (ring D b F 0)]) = _ := ht
    have hl' : L5_1 (1, [.i 150, .n 150, .i 0, .l h, .i D, .i b, .i w, .i D, .i b, .i w, .n D, .i ((0 + 150) % D : Nat), .l (ring D b F (0 + 150)), .i D, .i b, .i w, .n D, .i 0, .l (ring D b F 0), .l (tells D b w F 0 150)]) = _ := hl
    simp -implicitDefEqProofs only [g5, g5_0, asI_i, asN_n, asL_l, asB_b, asE_nil, Bool.cond_decide, few_0, silent_nil, rightL_ok, altK_0, altK_1, altK_2, altK_3, altK_4, altK_5, altK_6, altK_7w, altK_8w, altK_9w, altK_10w, altK_11w, hne, if_false, if_true, Bool.not_true, Bool.not_false, cond_true, cond_false, awakeL_ok, decide_eq_true hr, new_yes hr F, run_0, nil_none_e, if_pos c, ht', hl', if_neg (show ¬ (150 : Int) < 0 by omega), h150]
  · by_cases c2 : m < 0
    · simp -implicitDefEqProofs only [g5, g5_0, asI_i, asN_n, asL_l, asB_b, asE_nil, Bool.cond_decide, few_0, silent_nil, rightL_ok, altK_0, altK_1, altK_2, altK_3, altK_4, altK_5, altK_6, altK_7w, altK_8w, altK_9w, altK_10w, altK_11w, hne, if_false, if_true, Bool.not_true, Bool.not_false, cond_true, cond_false, awakeL_ok, decide_eq_true hr, new_yes hr F, run_0, nil_none_e, if_neg c, tail_0 D b w _ m _ (show m ≤ 0 by omega), if_pos c2, tail_none_e]
    · by_cases c3 : m = 0
      · subst c3
        simp -implicitDefEqProofs only [g5, g5_0, asI_i, asN_n, asL_l, asB_b, asE_nil, Bool.cond_decide, few_0, silent_nil, rightL_ok, altK_0, altK_1, altK_2, altK_3, altK_4, altK_5, altK_6, altK_7w, altK_8w, altK_9w, altK_10w, altK_11w, hne, if_false, if_true, Bool.not_true, Bool.not_false, cond_true, cond_false, awakeL_ok, decide_eq_true hr, new_yes hr F, run_0, nil_none_e, if_neg c, tail_0 D b w _ 0 _ (show (0 : Int) ≤ 0 by omega), if_neg c2, tail_none_e]
      · obtain ⟨M, rfl⟩ : ∃ M : Nat, m = M := ⟨m.toNat, by omega⟩
        have ht := tail_ok (D := D) (by omega) (b := b) (w := w) (by omega) (by omega) 0 M (by omega) (by omega) F hF0
        have hl := tail_loop_e h (D := D) (by omega) (b := b) (w := w) (by omega) (by omega) F 0 M hF0 (by omega) ((0 + M) % D : Nat) (ring D b F (0 + M))
        rw [z0] at ht hl
        have ht' : g17 (0, [.i M, .i D, .i b, .i w, .n D, .i 0, .l (ring D b F 0)]) = _ := ht
        have hl' : L5_1 (1, [.i M, .n M, .i 0, .l h, .i D, .i b, .i w, .i D, .i b, .i w, .n D, .i ((0 + M) % D : Nat), .l (ring D b F (0 + M)), .i D, .i b, .i w, .n D, .i 0, .l (ring D b F 0), .l (tells D b w F 0 M)]) = _ := hl
        simp -implicitDefEqProofs only [g5, g5_0, asI_i, asN_n, asL_l, asB_b, asE_nil, Bool.cond_decide, few_0, silent_nil, rightL_ok, altK_0, altK_1, altK_2, altK_3, altK_4, altK_5, altK_6, altK_7w, altK_8w, altK_9w, altK_10w, altK_11w, hne, if_false, if_true, Bool.not_true, Bool.not_false, cond_true, cond_false, awakeL_ok, decide_eq_true hr, new_yes hr F, run_0, nil_none_e, if_neg c, ht', hl', if_neg c2]
theorem nob_e_no (Di b w m : Int) (h : List Int) (hr : ¬ RightE Di b w) : g5 (0, [.i Di, .i b, .i w, .n 0, .i m, .l h]) = some (0, [.b true, .l h]) := by
  have hne : ∀ x : Int, (x ≠ x) = False := fun x => by simp
  by_cases c : 150 < m
  · simp -implicitDefEqProofs only [g5, g5_0, asI_i, asN_n, asL_l, asB_b, asE_nil, Bool.cond_decide, few_0, silent_nil, rightL_ok, altK_0, altK_1, altK_2, altK_3, altK_4, altK_5, altK_6, altK_7w, altK_8w, altK_9w, altK_10w, altK_11w, hne, if_false, if_true, Bool.not_true, Bool.not_false, cond_true, cond_false, awakeL_ok, decide_eq_false hr, if_pos c, nil_none_e]
  · simp -implicitDefEqProofs only [g5, g5_0, asI_i, asN_n, asL_l, asB_b, asE_nil, Bool.cond_decide, few_0, silent_nil, rightL_ok, altK_0, altK_1, altK_2, altK_3, altK_4, altK_5, altK_6, altK_7w, altK_8w, altK_9w, altK_10w, altK_11w, hne, if_false, if_true, Bool.not_true, Bool.not_false, cond_true, cond_false, awakeL_ok, decide_eq_false hr, if_neg c, nil_none_e]
theorem tail_loop_f (h L : List Int) {D : Nat} (hD : 1 ≤ D ∧ D ≤ 4096) {b w : Int} (hb : 0 ≤ b ∧ b ≤ 256) (hw : 0 ≤ w ∧ w ≤ 256) (F : Nat → Int) (N M : Nat) (hF : ∀ k, N ≤ k → F k = 0) (hM : M ≤ 150) (p : Int) (R : List Int) :
    L5_1 (3, [.i M, .n M, .i 0, .l h, .i D, .i b, .i w, .l L, .i D, .i b, .i w, .n D, .i p, .l R, .i D, .i b, .i w, .n D, .i (N % D : Nat), .l (ring D b F N), .l (tells D b w F N M)]) = some (4, [.l h, .i D, .i b, .i w, .l L, .i D, .i b, .i w, .n D, .i p, .l R, .i D, .i b, .i w, .n D, .i ((N + M) % D : Nat), .l (ring D b F (N + M)), .l (tells D b w F N M)]) := by
  refine loopL_run (m := 8) (f := f5_1) (fun k => (3, [.i M, .n M, .i k, .l h, .i D, .i b, .i w, .l L, .i D, .i b, .i w, .n D, .i p, .l R, .i D, .i b, .i w, .n D, .i ((N + k) % D : Nat), .l (ring D b F (N + k)), .l (tells D b w F N M)])) M (fun k hk => ⟨?_, by show 3 < 8; omega⟩) ?_ (by omega)
  · have hx := tells_get D b w F N hk
    have hz := hF (N + k) (by omega)
    have hn := next_ok hD hb hw F (N + k) (by rw [hz]; unfold Small; omega)
    rw [hz] at hn
    have hne : ∀ x : Int, (x ≠ x) = False := fun x => by simp
    have w2 : IntKind.i64.wrap ((k : Int) + 1) = ((k + 1 : Nat) : Int) := wrap_nat (n := k + 1) (by omega)
    have k1 : (k : Int) < M := by omega
    have k3 : (0 : Int) ≤ k ∧ (k : Int) < M := by omega
    simp -implicitDefEqProofs only [f5_1, f5_1_3, asI_i, asN_n, asL_l, asE_nil, Bool.cond_decide, if_pos k1, if_pos k3, Int.toNat_natCast, hx, optK_some, hn, altK_0, hne, if_false, w2, Nat.add_assoc]
  · simp -implicitDefEqProofs only [f5_1, f5_1_3, asI_i, asN_n, asL_l, asE_nil, Bool.cond_decide, if_neg (Int.lt_irrefl _)]
theorem tail_none_f (h L : List Int) (D : Nat) (b w : Int) (p q : Int) (R Q : List Int) :
    L5_1 (2, [.i 0, .i 0, .l h, .i D, .i b, .i w, .l L, .i D, .i b, .i w, .n D, .i p, .l R, .i D, .i b, .i w, .n D, .i q, .l Q]) = some (3, [.l h, .i D, .i b, .i w, .l L, .i D, .i b, .i w, .n D, .i p, .l R, .i D, .i b, .i w, .n D, .i q, .l Q]) := loopL_last (m := 8) (f := f5_1) (j := 3) (by
    simp -implicitDefEqProofs only [f5_1, f5_1_2, asI_i, asN_n, asL_l, asE_nil, Bool.cond_decide, if_neg (Int.lt_irrefl _)])
theorem nob_f_yes (Di b w m : Int) (h : List Int) (n : Nat) (hn : h.length = n) (h1 : 1 ≤ n) (hm : n < 9223372036854775808) (hr : RightE Di b w) : g5 (0, [.i Di, .i b, .i w, .n n, .i m, .l h]) = some (0, [.b true, .l h]) := by
  have hne : ∀ x : Int, (x ≠ x) = False := fun x => by simp
  have hlen : (fewV h).length = min 150 n := by rw [fewV_len, hn]
  have hf := few_ok h n hn h1 hm
  have hin := fewV_in h
  have hN : 1 ≤ min 150 n ∧ min 150 n ≤ 150 := by omega
  generalize fewV h = L at *
  generalize min 150 n = N at *
  have hh := hr
  unfold RightE at hh
  obtain ⟨D, rfl⟩ : ∃ D : Nat, Di = D := ⟨Di.toNat, by omega⟩
  obtain ⟨F, hFe⟩ : ∃ F : Nat → Int, F = fun k => L.getD k 0 := ⟨_, rfl⟩
  have hF : ∀ k, Small (F k) := by rw [hFe]; exact hin
  have hF0 : ∀ k, N ≤ k → F k = 0 := by
    intro k hk
    rw [hFe]
    simp [List.getElem?_eq_none (show L.length ≤ k by omega)]
  have hr1 := run_ok (D := D) (by omega) (b := b) (w := w) (by omega) (by omega) L N hlen hN.1 hN.2 F hFe hF
  by_cases c : 150 < m
  · have h150 : (((150 : Nat) : Int) ≠ 150) = False := by simp
    have ht := tail_ok (D := D) (by omega) (b := b) (w := w) (by omega) (by omega) N 150 (by omega) (by omega) F hF0
    have hl := tail_loop_f h L (D := D) (by omega) (b := b) (w := w) (by omega) (by omega) F N 150 hF0 (by omega) ((N + 150) % D : Nat) (ring D b F (N + 150))
    have ht' : g17 (0, [.i 150, .i D, .i b, .i w, .n D, .i (N % D : Nat), .l (ring D b F N)]) = _ := ht
    have hl' : L5_1 (3, [.i 150, .n 150, .i 0, .l h, .i D, .i b, .i w, .l L, .i D, .i b, .i w, .n D, .i ((N + 150) % D : Nat), .l (ring D b F (N + 150)), .i D, .i b, .i w, .n D, .i (N % D : Nat), .l (ring D b F N), .l (tells D b w F N 150)]) = _ := hl
    simp -implicitDefEqProofs only [g5, g5_0, asI_i, asN_n, asL_l, asB_b, asE_nil, Bool.cond_decide, hf, silent_nil, rightL_ok, altK_0, altK_1, altK_2, altK_3, altK_4, altK_5, altK_6, altK_7w, altK_8w, altK_9w, altK_10w, altK_11w, hne, if_false, if_true, Bool.not_true, Bool.not_false, cond_true, cond_false, awakeL_ok, decide_eq_true hr, new_yes hr F, hr1, nil_loop h L N hlen hN.2, if_pos c, ht', hl', if_neg (show ¬ (150 : Int) < 0 by omega), h150]
  · by_cases c2 : m < 0
    · simp -implicitDefEqProofs only [g5, g5_0, asI_i, asN_n, asL_l, asB_b, asE_nil, Bool.cond_decide, hf, silent_nil, rightL_ok, altK_0, altK_1, altK_2, altK_3, altK_4, altK_5, altK_6, altK_7w, altK_8w, altK_9w, altK_10w, altK_11w, hne, if_false, if_true, Bool.not_true, Bool.not_false, cond_true, cond_false, awakeL_ok, decide_eq_true hr, new_yes hr F, hr1, nil_loop h L N hlen hN.2, if_neg c, tail_0 D b w _ m _ (show m ≤ 0 by omega), if_pos c2, tail_none_f]
    · by_cases c3 : m = 0
      · subst c3
        simp -implicitDefEqProofs only [g5, g5_0, asI_i, asN_n, asL_l, asB_b, asE_nil, Bool.cond_decide, hf, silent_nil, rightL_ok, altK_0, altK_1, altK_2, altK_3, altK_4, altK_5, altK_6, altK_7w, altK_8w, altK_9w, altK_10w, altK_11w, hne, if_false, if_true, Bool.not_true, Bool.not_false, cond_true, cond_false, awakeL_ok, decide_eq_true hr, new_yes hr F, hr1, nil_loop h L N hlen hN.2, if_neg c, tail_0 D b w _ 0 _ (show (0 : Int) ≤ 0 by omega), if_neg c2, tail_none_f]
      · obtain ⟨M, rfl⟩ : ∃ M : Nat, m = M := ⟨m.toNat, by omega⟩
        have ht := tail_ok (D := D) (by omega) (b := b) (w := w) (by omega) (by omega) N M (by omega) (by omega) F hF0
        have hl := tail_loop_f h L (D := D) (by omega) (b := b) (w := w) (by omega) (by omega) F N M hF0 (by omega) ((N + M) % D : Nat) (ring D b F (N + M))
        have ht' : g17 (0, [.i M, .i D, .i b, .i w, .n D, .i (N % D : Nat), .l (ring D b F N)]) = _ := ht
        have hl' : L5_1 (3, [.i M, .n M, .i 0, .l h, .i D, .i b, .i w, .l L, .i D, .i b, .i w, .n D, .i ((N + M) % D : Nat), .l (ring D b F (N + M)), .i D, .i b, .i w, .n D, .i (N % D : Nat), .l (ring D b F N), .l (tells D b w F N M)]) = _ := hl
        simp -implicitDefEqProofs only [g5, g5_0, asI_i, asN_n, asL_l, asB_b, asE_nil, Bool.cond_decide, hf, silent_nil, rightL_ok, altK_0, altK_1, altK_2, altK_3, altK_4, altK_5, altK_6, altK_7w, altK_8w, altK_9w, altK_10w, altK_11w, hne, if_false, if_true, Bool.not_true, Bool.not_false, cond_true, cond_false, awakeL_ok, decide_eq_true hr, new_yes hr F, hr1, nil_loop h L N hlen hN.2, if_neg c, ht', hl', if_neg c2]
theorem nob_f_no (Di b w m : Int) (h : List Int) (n : Nat) (hn : h.length = n) (h1 : 1 ≤ n) (hm : n < 9223372036854775808) (hr : ¬ RightE Di b w) : g5 (0, [.i Di, .i b, .i w, .n n, .i m, .l h]) = some (0, [.b true, .l h]) := by
  have hne : ∀ x : Int, (x ≠ x) = False := fun x => by simp
  have hlen : (fewV h).length = min 150 n := by rw [fewV_len, hn]
  have hf := few_ok h n hn h1 hm
  have hin := fewV_in h
  have hN : 1 ≤ min 150 n ∧ min 150 n ≤ 150 := by omega
  generalize fewV h = L at *
  generalize min 150 n = N at *
  by_cases c : 150 < m
  · simp -implicitDefEqProofs only [g5, g5_0, asI_i, asN_n, asL_l, asB_b, asE_nil, Bool.cond_decide, hf, silent_nil, rightL_ok, altK_0, altK_1, altK_2, altK_3, altK_4, altK_5, altK_6, altK_7w, altK_8w, altK_9w, altK_10w, altK_11w, hne, if_false, if_true, Bool.not_true, Bool.not_false, cond_true, cond_false, awakeL_ok, decide_eq_false hr, if_pos c, nil_loop h L N hlen hN.2]
  · simp -implicitDefEqProofs only [g5, g5_0, asI_i, asN_n, asL_l, asB_b, asE_nil, Bool.cond_decide, hf, silent_nil, rightL_ok, altK_0, altK_1, altK_2, altK_3, altK_4, altK_5, altK_6, altK_7w, altK_8w, altK_9w, altK_10w, altK_11w, hne, if_false, if_true, Bool.not_true, Bool.not_false, cond_true, cond_false, awakeL_ok, decide_eq_false hr, if_neg c, nil_loop h L N hlen hN.2]
theorem tail_loop_n {D : Nat} (hD : 1 ≤ D ∧ D ≤ 4096) {b w : Int} (hb : 0 ≤ b ∧ b ≤ 256) (hw : 0 ≤ w ∧ w ≤ 256) (F : Nat → Int) (N M : Nat) (hF : ∀ k, N ≤ k → F k = 0) (hM : M ≤ 150) (p : Int) (R : List Int) :
    L5_1 (5, [.i M, .n M, .i 0, .i D, .i b, .i w, .i D, .i b, .i w, .n D, .i p, .l R, .i D, .i b, .i w, .n D, .i (N % D : Nat), .l (ring D b F N), .l (tells D b w F N M)]) = some (7, [.i D, .i b, .i w, .i D, .i b, .i w, .n D, .i p, .l R, .i D, .i b, .i w, .n D, .i ((N + M) % D : Nat), .l (ring D b F (N + M)), .l (tells D b w F N M)]) := by
  refine loopL_run (m := 8) (f := f5_1) (fun k => (5, [.i M, .n M, .i k, .i D, .i b, .i w, .i D, .i b, .i w, .n D, .i p, .l R, .i D, .i b, .i w, .n D, .i ((N + k) % D : Nat), .l (ring D b F (N + k)), .l (tells D b w F N M)])) M (fun k hk => ⟨?_, by show 5 < 8; omega⟩) ?_ (by omega)
  · have hx := tells_get D b w F N hk
    have hz := hF (N + k) (by omega)
    have hn := next_ok hD hb hw F (N + k) (by rw [hz]; unfold Small; omega)
    rw [hz] at hn
    have hne : ∀ x : Int, (x ≠ x) = False := fun x => by simp
    have w2 : IntKind.i64.wrap ((k : Int) + 1) = ((k + 1 : Nat) : Int) := wrap_nat (n := k + 1) (by omega)
    have k1 : (k : Int) < M := by omega
    have k3 : (0 : Int) ≤ k ∧ (k : Int) < M := by omega
    simp -implicitDefEqProofs only [f5_1, f5_1_5, asI_i, asN_n, asL_l, asE_nil, Bool.cond_decide, if_pos k1, if_pos k3, Int.toNat_natCast, hx, optK_some, hn, altK_0, hne, if_false, w2, Nat.add_assoc]
  · simp -implicitDefEqProofs only [f5_1, f5_1_5, asI_i, asN_n, asL_l, asE_nil, Bool.cond_decide, if_neg (Int.lt_irrefl _)]
theorem tail_none_n (D : Nat) (b w : Int) (p q : Int) (R Q : List Int) :
    L5_1 (4, [.i 0, .i 0, .i D, .i b, .i w, .i D, .i b, .i w, .n D, .i p, .l R, .i D, .i b, .i w, .n D, .i q, .l Q]) = some (6, [.i D, .i b, .i w, .i D, .i b, .i w, .n D, .i p, .l R, .i D, .i b, .i w, .n D, .i q, .l Q]) := loopL_last (m := 8) (f := f5_1) (j := 6) (by
    simp -implicitDefEqProofs only [f5_1, f5_1_4, asI_i, asN_n, asL_l, asE_nil, Bool.cond_decide, if_neg (Int.lt_irrefl _)])
theorem nil_none_n (m D b w : Int) : L5_0 (2, [.i m, .i 0, .i D, .i b, .i w]) = some (3, [.i m, .i D, .i b, .i w]) := loopL_last (m := 4) (f := f5_0) (j := 3) (by
    simp -implicitDefEqProofs only [f5_0, f5_0_2, asI_i, asN_n, asL_l, asE_nil, Bool.cond_decide, if_neg (Int.lt_irrefl _)])
theorem nob_n_yes (Di b w m : Int) (hr : RightE Di b w) : g5 (1, [.i Di, .i b, .i w, .i m]) = some (1, [.b true]) := by
  have hne : ∀ x : Int, (x ≠ x) = False := fun x => by simp
  have hh := hr
  unfold RightE at hh
  obtain ⟨D, rfl⟩ : ∃ D : Nat, Di = D := ⟨Di.toNat, by omega⟩
  obtain ⟨F, hFe⟩ : ∃ F : Nat → Int, F = fun _ => 0 := ⟨_, rfl⟩
  have hF0 : ∀ k, 0 ≤ k → F k = 0 := fun k _ => by rw [hFe]
  have z0 : (0 : Nat) % D = 0 := Nat.zero_mod _
  by_cases c : 150 < m
  · have h150 : (((150 : Nat) : Int) ≠ 150) = False := by simp
    have ht := tail_ok (D := D) (by omega) (b := b) (w := w) (by omega) (by omega) 0 150 (by omega) (by omega) F hF0
    have hl := tail_loop_n (D := D) (by omega) (b := b) (w := w) (by omega) (by omega) F 0 150 hF0 (by omega) ((0 + 150) % D : Nat) (ring D b F (0 + 150))
    rw [z0] at ht hl
    have ht' : g17 (0, [.i 150, .i D, .i b, .i w, .n D, .i 0, .l (ring D b F 0)]) = _ := ht
    have hl' : L5_1 (5, [.i 150, .n 150, .i 0, .i D, .i b, .i w, .i D, .i b, .i w, .n D, .i ((0 + 150) % D : Nat), .l (ring D b F (0 + 150)), .i D, .i b, .i w, .n D, .i 0, .l (ring D b F 0), .l (tells D b w F 0 150)]) = _ := hl
    simp -implicitDefEqProofs only [g5, g5_1, asI_i, asN_n, asL_l, asB_b, asE_nil, Bool.cond_decide, few_nil, silent_nil, rightL_ok, altK_0, altK_1, altK_2, altK_3, altK_4, altK_5, altK_6, altK_7w, altK_8w, altK_9w, altK_10w, altK_11w, hne, if_false, if_true, Bool.not_true, Bool.not_false, cond_true, cond_false, awakeL_ok, decide_eq_true hr, new_yes hr F, run_0, nil_none_n, if_pos c, ht', hl', if_neg (show ¬ (150 : Int) < 0 by omega), h150]
  · by_cases c2 : m < 0
    · simp -implicitDefEqProofs only [g5, g5_1, asI_i, asN_n, asL_l, asB_b, asE_nil, Bool.cond_decide, few_nil, silent_nil, rightL_ok, altK_0, altK_1, altK_2, altK_3, altK_4, altK_5, altK_6, altK_7w, altK_8w, altK_9w, altK_10w, altK_11w, hne, if_false, if_true, Bool.not_true, Bool.not_false, cond_true, cond_false, awakeL_ok, decide_eq_true hr, new_yes hr F, run_0, nil_none_n, if_neg c, tail_0 D b w _ m _ (show m ≤ 0 by omega), if_pos c2, tail_none_n]
    · by_cases c3 : m = 0
      · subst c3
        simp -implicitDefEqProofs only [g5, g5_1, asI_i, asN_n, asL_l, asB_b, asE_nil, Bool.cond_decide, few_nil, silent_nil, rightL_ok, altK_0, altK_1, altK_2, altK_3, altK_4, altK_5, altK_6, altK_7w, altK_8w, altK_9w, altK_10w, altK_11w, hne, if_false, if_true, Bool.not_true, Bool.not_false, cond_true, cond_false, awakeL_ok, decide_eq_true hr, new_yes hr F, run_0, nil_none_n, if_neg c, tail_0 D b w _ 0 _ (show (0 : Int) ≤ 0 by omega), if_neg c2, tail_none_n]
      · obtain ⟨M, rfl⟩ : ∃ M : Nat, m = M := ⟨m.toNat, by omega⟩
        have ht := tail_ok (D := D) (by omega) (b := b) (w := w) (by omega) (by omega) 0 M (by omega) (by omega) F hF0
        have hl := tail_loop_n (D := D) (by omega) (b := b) (w := w) (by omega) (by omega) F 0 M hF0 (by omega) ((0 + M) % D : Nat) (ring D b F (0 + M))
        rw [z0] at ht hl
        have ht' : g17 (0, [.i M, .i D, .i b, .i w, .n D, .i 0, .l (ring D b F 0)]) = _ := ht
        have hl' : L5_1 (5, [.i M, .n M, .i 0, .i D, .i b, .i w, .i D, .i b, .i w, .n D, .i ((0 + M) % D : Nat), .l (ring D b F (0 + M)), .i D, .i b, .i w, .n D, .i 0, .l (ring D b F 0), .l (tells D b w F 0 M)]) = _ := hl
        simp -implicitDefEqProofs only [g5, g5_1, asI_i, asN_n, asL_l, asB_b, asE_nil, Bool.cond_decide, few_nil, silent_nil, rightL_ok, altK_0, altK_1, altK_2, altK_3, altK_4, altK_5, altK_6, altK_7w, altK_8w, altK_9w, altK_10w, altK_11w, hne, if_false, if_true, Bool.not_true, Bool.not_false, cond_true, cond_false, awakeL_ok, decide_eq_true hr, new_yes hr F, run_0, nil_none_n, if_neg c, ht', hl', if_neg c2]
theorem nob_n_no (Di b w m : Int) (hr : ¬ RightE Di b w) : g5 (1, [.i Di, .i b, .i w, .i m]) = some (1, [.b true]) := by
  have hne : ∀ x : Int, (x ≠ x) = False := fun x => by simp
  by_cases c : 150 < m
  · simp -implicitDefEqProofs only [g5, g5_1, asI_i, asN_n, asL_l, asB_b, asE_nil, Bool.cond_decide, few_nil, silent_nil, rightL_ok, altK_0, altK_1, altK_2, altK_3, altK_4, altK_5, altK_6, altK_7w, altK_8w, altK_9w, altK_10w, altK_11w, hne, if_false, if_true, Bool.not_true, Bool.not_false, cond_true, cond_false, awakeL_ok, decide_eq_false hr, if_pos c, nil_none_n]
  · simp -implicitDefEqProofs only [g5, g5_1, asI_i, asN_n, asL_l, asB_b, asE_nil, Bool.cond_decide, few_nil, silent_nil, rightL_ok, altK_0, altK_1, altK_2, altK_3, altK_4, altK_5, altK_6, altK_7w, altK_8w, altK_9w, altK_10w, altK_11w, hne, if_false, if_true, Bool.not_true, Bool.not_false, cond_true, cond_false, awakeL_ok, decide_eq_false hr, if_neg c, nil_none_n]
theorem tail_loop_z {D : Nat} (hD : 1 ≤ D ∧ D ≤ 4096) {b w : Int} (hb : 0 ≤ b ∧ b ≤ 256) (hw : 0 ≤ w ∧ w ≤ 256) (F : Nat → Int) (N M : Nat) (hF : ∀ k, N ≤ k → F k = 0) (hM : M ≤ 150) (p : Int) (R : List Int) :
    L5_1 (7, [.i M, .n M, .i 0, .i D, .i b, .i w, .i D, .i b, .i w, .n D, .i p, .l R, .i D, .i b, .i w, .n D, .i (N % D : Nat), .l (ring D b F N), .l (tells D b w F N M)]) = some (10, [.i D, .i b, .i w, .i D, .i b, .i w, .n D, .i p, .l R, .i D, .i b, .i w, .n D, .i ((N + M) % D : Nat), .l (ring D b F (N + M)), .l (tells D b w F N M)]) := by
  refine loopL_run (m := 8) (f := f5_1) (fun k => (7, [.i M, .n M, .i k, .i D, .i b, .i w, .i D, .i b, .i w, .n D, .i p, .l R, .i D, .i b, .i w, .n D, .i ((N + k) % D : Nat), .l (ring D b F (N + k)), .l (tells D b w F N M)])) M (fun k hk => ⟨?_, by show 7 < 8; omega⟩) ?_ (by omega)
  · have hx := tells_get D b w F N hk
    have hz := hF (N + k) (by omega)
    have hn := next_ok hD hb hw F (N + k) (by rw [hz]; unfold Small; omega)
    rw [hz] at hn
    have hne : ∀ x : Int, (x ≠ x) = False := fun x => by simp
    have w2 : IntKind.i64.wrap ((k : Int) + 1) = ((k + 1 : Nat) : Int) := wrap_nat (n := k + 1) (by omega)
    have k1 : (k : Int) < M := by omega
    have k3 : (0 : Int) ≤ k ∧ (k : Int) < M := by omega
    simp -implicitDefEqProofs only [f5_1, f5_1_7, asI_i, asN_n, asL_l, asE_nil, Bool.cond_decide, if_pos k1, if_pos k3, Int.toNat_natCast, hx, optK_some, hn, altK_0, hne, if_false, w2, Nat.add_assoc]
  · simp -implicitDefEqProofs only [f5_1, f5_1_7, asI_i, asN_n, asL_l, asE_nil, Bool.cond_decide, if_neg (Int.lt_irrefl _)]
theorem tail_none_z (D : Nat) (b w : Int) (p q : Int) (R Q : List Int) :
    L5_1 (6, [.i 0, .i 0, .i D, .i b, .i w, .i D, .i b, .i w, .n D, .i p, .l R, .i D, .i b, .i w, .n D, .i q, .l Q]) = some (9, [.i D, .i b, .i w, .i D, .i b, .i w, .n D, .i p, .l R, .i D, .i b, .i w, .n D, .i q, .l Q]) := loopL_last (m := 8) (f := f5_1) (j := 9) (by
    simp -implicitDefEqProofs only [f5_1, f5_1_6, asI_i, asN_n, asL_l, asE_nil, Bool.cond_decide, if_neg (Int.lt_irrefl _)])
theorem nil_none_z (m D b w : Int) : L5_0 (3, [.i m, .i 0, .i D, .i b, .i w]) = some (4, [.i m, .i D, .i b, .i w]) := loopL_last (m := 4) (f := f5_0) (j := 4) (by
    simp -implicitDefEqProofs only [f5_0, f5_0_3, asI_i, asN_n, asL_l, asE_nil, Bool.cond_decide, if_neg (Int.lt_irrefl _)])
theorem nob_z_yes (Di b w m : Int) (hr : RightE Di b w) : g5 (2, [.i Di, .i b, .i w, .i m]) = some (2, [.b true]) := by
  have hne : ∀ x : Int, (x ≠ x) = False := fun x => by simp
  have hh := hr
  unfold RightE at hh
  obtain ⟨D, rfl⟩ : ∃ D : Nat, Di = D := ⟨Di.toNat, by omega⟩
  obtain ⟨F, hFe⟩ : ∃ F : Nat → Int, F = fun _ => 0 := ⟨_, rfl⟩
  have hF0 : ∀ k, 0 ≤ k → F k = 0 := fun k _ => by rw [hFe]
  have z0 : (0 : Nat) % D = 0 := Nat.zero_mod _
  by_cases c : 150 < m
  · have h150 : (((150 : Nat) : Int) ≠ 150) = False := by simp
    have ht := tail_ok (D := D) (by omega) (b := b) (w := w) (by omega) (by omega) 0 150 (by omega) (by omega) F hF0
    have hl := tail_loop_z (D := D) (by omega) (b := b) (w := w) (by omega) (by omega) F 0 150 hF0 (by omega) ((0 + 150) % D : Nat) (ring D b F (0 + 150))
    rw [z0] at ht hl
    have ht' : g17 (0, [.i 150, .i D, .i b, .i w, .n D, .i 0, .l (ring D b F 0)]) = _ := ht
    have hl' : L5_1 (7, [.i 150, .n 150, .i 0, .i D, .i b, .i w, .i D, .i b, .i w, .n D, .i ((0 + 150) % D : Nat), .l (ring D b F (0 + 150)), .i D, .i b, .i w, .n D, .i 0, .l (ring D b F 0), .l (tells D b w F 0 150)]) = _ := hl
    simp -implicitDefEqProofs only [g5, g5_2, asI_i, asN_n, asL_l, asB_b, asE_nil, Bool.cond_decide, few_z, silent_nil, rightL_ok, altK_0, altK_1, altK_2, altK_3, altK_4, altK_5, altK_6, altK_7w, altK_8w, altK_9w, altK_10w, altK_11w, hne, if_false, if_true, Bool.not_true, Bool.not_false, cond_true, cond_false, awakeL_ok, decide_eq_true hr, new_yes hr F, run_0, nil_none_z, if_pos c, ht', hl', if_neg (show ¬ (150 : Int) < 0 by omega), h150]
  · by_cases c2 : m < 0
    · simp -implicitDefEqProofs only [g5, g5_2, asI_i, asN_n, asL_l, asB_b, asE_nil, Bool.cond_decide, few_z, silent_nil, rightL_ok, altK_0, altK_1, altK_2, altK_3, altK_4, altK_5, altK_6, altK_7w, altK_8w, altK_9w, altK_10w, altK_11w, hne, if_false, if_true, Bool.not_true, Bool.not_false, cond_true, cond_false, awakeL_ok, decide_eq_true hr, new_yes hr F, run_0, nil_none_z, if_neg c, tail_0 D b w _ m _ (show m ≤ 0 by omega), if_pos c2, tail_none_z]
    · by_cases c3 : m = 0
      · subst c3
        simp -implicitDefEqProofs only [g5, g5_2, asI_i, asN_n, asL_l, asB_b, asE_nil, Bool.cond_decide, few_z, silent_nil, rightL_ok, altK_0, altK_1, altK_2, altK_3, altK_4, altK_5, altK_6, altK_7w, altK_8w, altK_9w, altK_10w, altK_11w, hne, if_false, if_true, Bool.not_true, Bool.not_false, cond_true, cond_false, awakeL_ok, decide_eq_true hr, new_yes hr F, run_0, nil_none_z, if_neg c, tail_0 D b w _ 0 _ (show (0 : Int) ≤ 0 by omega), if_neg c2, tail_none_z]
      · obtain ⟨M, rfl⟩ : ∃ M : Nat, m = M := ⟨m.toNat, by omega⟩
        have ht := tail_ok (D := D) (by omega) (b := b) (w := w) (by omega) (by omega) 0 M (by omega) (by omega) F hF0
        have hl := tail_loop_z (D := D) (by omega) (b := b) (w := w) (by omega) (by omega) F 0 M hF0 (by omega) ((0 + M) % D : Nat) (ring D b F (0 + M))
        rw [z0] at ht hl
        have ht' : g17 (0, [.i M, .i D, .i b, .i w, .n D, .i 0, .l (ring D b F 0)]) = _ := ht
        have hl' : L5_1 (7, [.i M, .n M, .i 0, .i D, .i b, .i w, .i D, .i b, .i w, .n D, .i ((0 + M) % D : Nat), .l (ring D b F (0 + M)), .i D, .i b, .i w, .n D, .i 0, .l (ring D b F 0), .l (tells D b w F 0 M)]) = _ := hl
        simp -implicitDefEqProofs only [g5, g5_2, asI_i, asN_n, asL_l, asB_b, asE_nil, Bool.cond_decide, few_z, silent_nil, rightL_ok, altK_0, altK_1, altK_2, altK_3, altK_4, altK_5, altK_6, altK_7w, altK_8w, altK_9w, altK_10w, altK_11w, hne, if_false, if_true, Bool.not_true, Bool.not_false, cond_true, cond_false, awakeL_ok, decide_eq_true hr, new_yes hr F, run_0, nil_none_z, if_neg c, ht', hl', if_neg c2]
theorem nob_z_no (Di b w m : Int) (hr : ¬ RightE Di b w) : g5 (2, [.i Di, .i b, .i w, .i m]) = some (2, [.b true]) := by
  have hne : ∀ x : Int, (x ≠ x) = False := fun x => by simp
  by_cases c : 150 < m
  · simp -implicitDefEqProofs only [g5, g5_2, asI_i, asN_n, asL_l, asB_b, asE_nil, Bool.cond_decide, few_z, silent_nil, rightL_ok, altK_0, altK_1, altK_2, altK_3, altK_4, altK_5, altK_6, altK_7w, altK_8w, altK_9w, altK_10w, altK_11w, hne, if_false, if_true, Bool.not_true, Bool.not_false, cond_true, cond_false, awakeL_ok, decide_eq_false hr, if_pos c, nil_none_z]
  · simp -implicitDefEqProofs only [g5, g5_2, asI_i, asN_n, asL_l, asB_b, asE_nil, Bool.cond_decide, few_z, silent_nil, rightL_ok, altK_0, altK_1, altK_2, altK_3, altK_4, altK_5, altK_6, altK_7w, altK_8w, altK_9w, altK_10w, altK_11w, hne, if_false, if_true, Bool.not_true, Bool.not_false, cond_true, cond_false, awakeL_ok, decide_eq_false hr, if_neg c, nil_none_z]
theorem nob_l (D b w m : Int) (l : List Int) (n : Nat) (hn : l.length = n * 1) (hm : n ≤ maxLen) : ∃ d, evF tab d 5 [.ints .i64 [D, b, w], .slice 0 0 n 1, .int .i64 m] [⟨false, .ints .i64 l⟩] = some (.bool true, [⟨false, .ints .i64 l⟩], []) := by
  have h : g5 (0, [.i D, .i b, .i w, .n n, .i m, .l l]) = some (0, [.b true, .l l]) := by
    unfold maxLen at hm
    by_cases r : RightE D b w
    · by_cases c : n = 0
      · subst c; exact nob_e_yes D b w m l r
      · exact nob_f_yes D b w m l n (by omega) (by omega) (by omega) r
    · by_cases c : n = 0
      · subst c; exact nob_e_no D b w m l r
      · exact nob_f_no D b w m l n (by omega) (by omega) (by omega) r
  exact ⟨_, (ok5 0).ret (i := 0) (ls := [.i D, .i b, .i w, .n n, .i m, .l l]) (j := 0) (r := [.b true, .l l]) h rfl rfl rfl rfl⟩
theorem nob_n (D b w m : Int) : ∃ d, evF tab d 5 [.ints .i64 [D, b, w], .nils, .int .i64 m] [] = some (.bool true, [], []) :=
  ⟨_, (ok5 0).ret (i := 1) (ls := [.i D, .i b, .i w, .i m]) (j := 1) (r := [.b true]) (by
    by_cases r : RightE D b w
    · exact nob_n_yes D b w m r
    · exact nob_n_no D b w m r) rfl rfl rfl rfl⟩
theorem nob_d (D b w m : Int) : ∃ d, evF tab d 5 [.ints .i64 [D, b, w], .slice 0 0 0 1, .int .i64 m] [⟨true, .unk⟩] = some (.bool true, [⟨true, .unk⟩], []) :=
  ⟨_, (ok5 0).ret (i := 2) (ls := [.i D, .i b, .i w, .i m]) (j := 2) (r := [.b true]) (by
    by_cases r : RightE D b w
    · exact nob_z_yes D b w m r
    · exact nob_z_no D b w m r) rfl rfl rfl rfl⟩
theorem nob3_l (s : List Int) (hs : s.length = 3) (m : Int) (l : List Int) (n : Nat) (hn : l.length = n * 1) (hm : n ≤ maxLen) : ∃ d, evF tab d 5 [.ints .i64 s, .slice 0 0 n 1, .int .i64 m] [⟨false, .ints .i64 l⟩] = some (.bool true, [⟨false, .ints .i64 l⟩], []) := by
  match s, hs with
  | [a, b, c], _ => exact nob_l a b c m l n hn hm
theorem nob3_n (s : List Int) (hs : s.length = 3) (m : Int) : ∃ d, evF tab d 5 [.ints .i64 s, .nils, .int .i64 m] [] = some (.bool true, [], []) := by
  match s, hs with
  | [a, b, c], _ => exact nob_n a b c m
theorem nob3_d (s : List Int) (hs : s.length = 3) (m : Int) : ∃ d, evF tab d 5 [.ints .i64 s, .slice 0 0 0 1, .int .i64 m] [⟨true, .unk⟩] = some (.bool true, [⟨true, .unk⟩], []) := by
  match s, hs with
  | [a, b, c], _ => exact nob_d a b c m
end Go.Proofs.Ytmmhmccmbohmoaa
