/-
  The law of how an echo ends. Conditions: none.
-/
import Derived.Test.YtmmhmccmbohmoaaFewCC
namespace Go.Proofs.Ytmmhmccmbohmoaa
open Go Go.Sx C
set_option maxRecDepth 100000
set_option linter.unusedVariables false
attribute [local simp] asI_i asB_b asL_l asN_n asS_s asE_nil altK_none altK_0 altK_1 altK_2 altK_3 optK_some optK_none Bool.cond_decide Bool.cond_not Int.toNat_natCast
set_option linter.unusedSimpArgs false
def tells (D : Nat) (b w : Int) (F : Nat → Int) (o m : Nat) : List Int := (List.range m).map fun j => tellV D b w F (o + j)
theorem tells_len (D : Nat) (b w : Int) (F : Nat → Int) (o m : Nat) : (tells D b w F o m).length = m := by simp [tells]
theorem tells_succ (D : Nat) (b w : Int) (F : Nat → Int) (o m : Nat) : tells D b w F o (m + 1) = tells D b w F o m ++ [tellV D b w F (o + m)] := by simp [tells, List.range_succ]
theorem tells_get (D : Nat) (b w : Int) (F : Nat → Int) (o : Nat) {m j : Nat} (h : j < m) : (tells D b w F o m)[j]? = some (tellV D b w F (o + j)) := by simp [tells, h]
theorem run_ok {D : Nat} (hD : 1 ≤ D ∧ D ≤ 4096) {b w : Int} (hb : 0 ≤ b ∧ b ≤ 256) (hw : 0 ≤ w ∧ w ≤ 256) (L : List Int) (N : Nat) (hN : L.length = N) (h1 : 1 ≤ N) (hm : N ≤ 150) (F : Nat → Int) (hFe : F = fun k => L.getD k 0) (hF : ∀ k, Small (F k)) :
    g15 (0, [.n N, .i D, .i b, .i w, .n D, .i 0, .l (ring D b F 0), .l L]) = some (1, [.n N, .i D, .i b, .i w, .n D, .i (N % D : Nat), .l (ring D b F N), .l L, .l (tells D b w F 0 N)]) := by
  have hl : L15_0 (0, [.n N, .i N, .i 0, .i D, .i b, .i w, .n D, .i 0, .l (ring D b F 0), .l L]) = some (2, [.n N, .i D, .i b, .i w, .n D, .i (N % D : Nat), .l (ring D b F N), .l L, .l (tells D b w F 0 N)]) := by
    have main := loopL_run (m := 3) (f := f15_0) (fun k => if k = 0 then (0, [.n N, .i N, .i 0, .i D, .i b, .i w, .n D, .i 0, .l (ring D b F 0), .l L]) else (2, [.n k, .n N, .i N, .i k, .i D, .i b, .i w, .n D, .i (k % D : Nat), .l (ring D b F k), .l L, .l (tells D b w F 0 k)])) N (j := 2) (r := [.n N, .i D, .i b, .i w, .n D, .i (N % D : Nat), .l (ring D b F N), .l L, .l (tells D b w F 0 N)]) (fun k hk => ?_) ?_ (by omega)
    · unfold L15_0; exact main
    · have hx : L[k]? = some (F k) := by rw [hFe]; exact get_some (by omega)
      have hn := next_ok hD hb hw F k (hF k)
      have w2 : IntKind.i64.wrap ((k : Int) + 1) = ((k + 1 : Nat) : Int) := wrap_nat (n := k + 1) (by omega)
      have k1 : (k : Int) < N := by omega
      have k3 : (0 : Int) ≤ k ∧ (k : Int) < N := by omega
      simp only [Nat.succ_ne_zero, if_false]
      refine ⟨?_, by show 2 < 3; omega⟩
      by_cases q : k = 0
      · subst q
        have hx0 : L[Int.toNat 0]? = some (F 0) := hx
        have z0 : (0 : Nat) % D = 0 := Nat.zero_mod _
        rw [z0] at hn
        have hn' : g11 (0, [.i (F 0), .i D, .i b, .i w, .n D, .i 0, .l (ring D b F 0)]) = _ := hn
        have w2' : IntKind.i64.wrap ((0 : Int) + 1) = ((0 + 1 : Nat) : Int) := w2
        have et : tells D b w F 0 (0 + 1) = [tellV D b w F 0] := rfl
        rw [if_pos rfl, et]
        simp -implicitDefEqProofs only [f15_0, f15_0_0, asI_i, asN_n, asL_l, asE_nil, Bool.cond_decide, if_pos (show (0 : Int) < N by omega), if_pos (show (0 : Int) ≤ 0 ∧ (0 : Int) < N by omega), hx0, optK_some, hn', altK_0, w2']
      · rw [if_neg q]
        simp -implicitDefEqProofs only [f15_0, f15_0_2, asI_i, asN_n, asL_l, asE_nil, Bool.cond_decide, if_pos k1, if_pos k3, Int.toNat_natCast, hx, optK_some, hn, altK_0, w2, if_pos (show (k + 1) * 8 ≤ 70368744177664 by omega), if_pos (show (tells D b w F 0 k).length = k * 1 by rw [tells_len]; omega), tells_succ, Nat.zero_add]
    · rw [if_neg (by omega)]
      simp -implicitDefEqProofs only [f15_0, f15_0_2, asI_i, asN_n, asL_l, asE_nil, Bool.cond_decide, if_neg (Int.lt_irrefl _)]
  simp -implicitDefEqProofs only [g15, g15_0, asI_i, asN_n, asL_l, asE_nil, hl, altK_2]
theorem run_0 (D : Nat) (b w p : Int) (R : List Int) : g15 (1, [.i D, .i b, .i w, .n D, .i p, .l R]) = some (2, [.i D, .i b, .i w, .n D, .i p, .l R]) := by
  have hl : L15_0 (1, [.i 0, .i 0, .i D, .i b, .i w, .n D, .i p, .l R]) = some (1, [.i D, .i b, .i w, .n D, .i p, .l R]) := loopL_last (m := 3) (f := f15_0) (j := 1) (by
    simp -implicitDefEqProofs only [f15_0, f15_0_1, asI_i, asN_n, asL_l, asE_nil, Bool.cond_decide, if_neg (Int.lt_irrefl _)])
  simp -implicitDefEqProofs only [g15, g15_1, asI_i, asN_n, asL_l, asE_nil, hl, altK_1]
theorem tail_ok {D : Nat} (hD : 1 ≤ D ∧ D ≤ 4096) {b w : Int} (hb : 0 ≤ b ∧ b ≤ 256) (hw : 0 ≤ w ∧ w ≤ 256) (N m : Nat) (h1 : 1 ≤ m) (hm : m ≤ 100000) (F : Nat → Int) (hF : ∀ k, N ≤ k → F k = 0) :
    g17 (0, [.i m, .i D, .i b, .i w, .n D, .i (N % D : Nat), .l (ring D b F N)]) = some (1, [.n m, .i D, .i b, .i w, .n D, .i ((N + m) % D : Nat), .l (ring D b F (N + m)), .l (tells D b w F N m)]) := by
  have hl : L17_0 (0, [.i m, .i 0, .i D, .i b, .i w, .n D, .i (N % D : Nat), .l (ring D b F N)]) = some (1, [.n m, .i D, .i b, .i w, .n D, .i ((N + m) % D : Nat), .l (ring D b F (N + m)), .l (tells D b w F N m)]) := by
    have main := loopL_run (m := 2) (f := f17_0) (fun k => if k = 0 then (0, [.i m, .i 0, .i D, .i b, .i w, .n D, .i (N % D : Nat), .l (ring D b F N)]) else (1, [.n k, .i m, .i k, .i D, .i b, .i w, .n D, .i ((N + k) % D : Nat), .l (ring D b F (N + k)), .l (tells D b w F N k)])) m (j := 1) (r := [.n m, .i D, .i b, .i w, .n D, .i ((N + m) % D : Nat), .l (ring D b F (N + m)), .l (tells D b w F N m)]) (fun k hk => ?_) ?_ (by omega)
    · unfold L17_0; exact main
    · have hz := hF (N + k) (by omega)
      have hn := next_ok hD hb hw F (N + k) (by rw [hz]; unfold Small; omega)
      rw [hz] at hn
      have w2 : IntKind.i64.wrap ((k : Int) + 1) = ((k + 1 : Nat) : Int) := wrap_nat (n := k + 1) (by omega)
      have k1 : (k : Int) < m := by omega
      simp only [Nat.succ_ne_zero, if_false]
      refine ⟨?_, by show 1 < 2; omega⟩
      by_cases q : k = 0
      · subst q
        have w2' : IntKind.i64.wrap ((0 : Int) + 1) = ((0 + 1 : Nat) : Int) := w2
        have et : tells D b w F N (0 + 1) = [tellV D b w F (N + 0)] := rfl
        rw [if_pos rfl, et]
        rw [Nat.add_zero] at hn ⊢
        simp -implicitDefEqProofs only [f17_0, f17_0_0, asI_i, asN_n, asL_l, asE_nil, Bool.cond_decide, if_pos (show (0 : Int) < m by omega), hn, altK_0, w2', Nat.zero_add, Nat.add_zero]
      · rw [if_neg q]
        simp -implicitDefEqProofs only [f17_0, f17_0_1, asI_i, asN_n, asL_l, asE_nil, Bool.cond_decide, if_pos k1, hn, altK_0, w2, if_pos (show (k + 1) * 8 ≤ 70368744177664 by omega), if_pos (show (tells D b w F N k).length = k * 1 by rw [tells_len]; omega), tells_succ, Nat.add_assoc]
    · rw [if_neg (by omega)]
      simp -implicitDefEqProofs only [f17_0, f17_0_1, asI_i, asN_n, asL_l, asE_nil, Bool.cond_decide, if_neg (Int.lt_irrefl _)]
  simp -implicitDefEqProofs only [g17, g17_0, asI_i, asN_n, asL_l, asE_nil, if_neg (show ¬ (0 : Int) > m by omega), hl, altK_1]
theorem kept_get {D : Nat} {b : Int} {F : Nat → Int} : ∀ {k j : Nat}, j < k → (kept D b F k).getD j 0 = newV D b (kept D b F j) (F j)
  | 0, j, h => by omega
  | k + 1, j, h => by
    by_cases c : j = k
    · subst c; exact kept_last
    · rw [kept_getD (by omega)]; exact kept_get (by omega)
theorem part_0 (x : Int) : partV x 0 = 0 := by unfold partV; rw [Int.mul_zero]; rfl
theorem ends_zero {D : Nat} (hD : 1 ≤ D) (F : Nat → Int) (N : Nat) (hF : ∀ k, N ≤ k → F k = 0) : zerosR D 0 F (N + D) = true := by
  rw [zeros_same hD]
  unfold zerosK
  rw [List.all_eq_true]
  intro t ht
  rw [List.mem_range] at ht
  refine decide_eq_true ?_
  rw [kept_get (by omega), newV, part_0, hF _ (by omega)]
  rfl
theorem altK_1' {α : Type} (r : List Leaf) (k k' : List Leaf → α) (ks : List (List Leaf → α)) (z : α) : altK (some (1, r)) (k :: k' :: ks) z = k' r := rfl
theorem ends_loop (h0 L : List Int) (N : Nat) (hN : L.length = N) (hm : N ≤ 150) (F : Nat → Int) (hFe : F = fun k => L.getD k 0) (D : Nat) (w p q : Int) (R Q : List Int) (x : Int) :
    L4_0 (2, [.n N, .n N, .i 0, .l h0, .i x, .i 0, .i 0, .l L, .i D, .i 0, .i w, .n D, .i p, .l R, .i D, .i 0, .i 0, .n D, .i q, .l Q, .l (tells D 0 0 F 0 N)]) = some (2, [.l h0, .i x, .i 0, .i 0, .l L, .i D, .i 0, .i w, .n D, .i p, .l R, .i D, .i 0, .i 0, .n D, .i q, .l Q, .l (tells D 0 0 F 0 N)]) := by
  refine loopL_run (m := 5) (f := f4_0) (fun k => (2, [.n N, .n N, .i k, .l h0, .i x, .i 0, .i 0, .l L, .i D, .i 0, .i w, .n D, .i p, .l R, .i D, .i 0, .i 0, .n D, .i q, .l Q, .l (tells D 0 0 F 0 N)])) N (fun k hk => ⟨?_, by show 2 < 5; omega⟩) ?_ (by omega)
  · have hx : L[k]? = some (F k) := by rw [hFe]; exact get_some (by omega)
    have hy := tells_get D 0 0 F 0 hk
    have ht : tellV D 0 0 F (0 + k) = satV (F k) := by rw [Nat.zero_add]; unfold tellV; rw [part_0, Int.add_zero]
    rw [ht] at hy
    have hne : ∀ x : Int, (x ≠ x) = False := fun x => by simp
    have w2 : IntKind.i64.wrap ((k : Int) + 1) = ((k + 1 : Nat) : Int) := wrap_nat (n := k + 1) (by omega)
    have k1 : (k : Int) < N := by omega
    have k3 : (0 : Int) ≤ k ∧ (k : Int) < N := by omega
    simp -implicitDefEqProofs only [f4_0, f4_0_2, asI_i, asN_n, asL_l, asE_nil, Bool.cond_decide, if_pos k1, if_pos k3, Int.toNat_natCast, hx, hy, optK_some, hold_ok, altK_0, hne, if_false, w2]
  · simp -implicitDefEqProofs only [f4_0, f4_0_2, asI_i, asN_n, asL_l, asE_nil, Bool.cond_decide, if_neg (Int.lt_irrefl _)]
theorem ends_0 (Di b w : Int) (l : List Int) : g4 (0, [.i Di, .i b, .i w, .n 0, .l l]) = some (0, [.b true, .l l]) := by
  have hne : ∀ x : Int, (x ≠ x) = False := fun x => by simp
  by_cases h : RightE Di 0 w
  · have hh := h
    unfold RightE at hh
    by_cases c : 100 < Di
    · simp -implicitDefEqProofs only [g4, g4_0, asI_i, asN_n, asL_l, asB_b, asE_nil, Bool.cond_decide, few_0, altK_0, rightL_ok, decide_eq_true h, Bool.not_true, cond_false, if_pos c, awakeL_ok]
    · obtain ⟨D, rfl⟩ : ∃ D : Nat, Di = D := ⟨Di.toNat, by omega⟩
      have h2 : RightE D 0 0 := by unfold RightE; omega
      have hl : ∀ R Q : List Int, L4_0 (0, [.i 0, .l l, .i D, .i 0, .i 0, .i D, .i 0, .i w, .n D, .i 0, .l R, .i D, .i 0, .i 0, .n D, .i 0, .l Q]) = some (0, [.l l, .i D, .i 0, .i 0, .i D, .i 0, .i w, .n D, .i 0, .l R, .i D, .i 0, .i 0, .n D, .i 0, .l Q]) := fun R Q => loopL_last (m := 5) (f := f4_0) (j := 0) (by
        simp -implicitDefEqProofs only [f4_0, f4_0_0, asI_i, asN_n, asL_l, asE_nil, Bool.cond_decide, if_neg (Int.lt_irrefl _)])
      have ht := tail_ok (D := D) (by omega) (b := 0) (w := w) (by omega) (by omega) 0 D (by omega) (by omega) (fun _ => 0) (fun _ _ => rfl)
      have ht' : g17 (0, [.i D, .i D, .i 0, .i w, .n D, .i 0, .l (ring D 0 (fun _ => 0) 0)]) = some (1, [.n D, .i D, .i 0, .i w, .n D, .i ((0 + D) % D : Nat), .l (ring D 0 (fun _ => 0) (0 + D)), .l (tells D 0 w (fun _ => 0) 0 D)]) := by
        have z0 : (0 : Nat) % D = 0 := Nat.zero_mod _
        rw [z0] at ht
        exact ht
      have hs := silent_ok (D := D) (by omega) 0 w (fun _ => 0) (0 + D) (((0 + D) % D : Nat) : Int)
      rw [ends_zero (by omega) (fun _ => 0) 0 (fun _ _ => rfl)] at hs
      simp -implicitDefEqProofs only [g4, g4_0, asI_i, asN_n, asL_l, asB_b, asE_nil, Bool.cond_decide, few_0, altK_0, rightL_ok, decide_eq_true h, Bool.not_true, cond_false, if_neg c, new_yes h (fun _ => 0), new_yes h2 (fun _ => 0), hne, if_false, run_0, altK_2, hl, ht', altK_1, if_true, hs, cond_true, awakeL_ok]
  · simp -implicitDefEqProofs only [g4, g4_0, asI_i, asN_n, asL_l, asB_b, asE_nil, Bool.cond_decide, few_0, altK_0, rightL_ok, decide_eq_false h, Bool.not_false, cond_true, awakeL_ok]
theorem ends_1 (Di b w : Int) (l : List Int) (n : Nat) (hn : l.length = n) (h1 : 1 ≤ n) (hm : n < 9223372036854775808) : g4 (0, [.i Di, .i b, .i w, .n n, .l l]) = some (0, [.b true, .l l]) := by
  have hlen : (fewV l).length = min 150 n := by rw [fewV_len, hn]
  have hf := few_ok l n hn h1 hm
  have hin := fewV_in l
  have hN : 1 ≤ min 150 n ∧ min 150 n ≤ 150 := by omega
  generalize fewV l = L at *
  generalize min 150 n = N at *
  have hne : ∀ x : Int, (x ≠ x) = False := fun x => by simp
  by_cases h : RightE Di 0 w
  · have hh := h
    unfold RightE at hh
    by_cases c : 100 < Di
    · simp -implicitDefEqProofs only [g4, g4_0, asI_i, asN_n, asL_l, asB_b, asE_nil, Bool.cond_decide, hf, altK_1, altK_0, rightL_ok, decide_eq_true h, Bool.not_true, cond_false, if_pos c, awakeL_ok]
    · obtain ⟨D, rfl⟩ : ∃ D : Nat, Di = D := ⟨Di.toNat, by omega⟩
      have h2 : RightE D 0 0 := by unfold RightE; omega
      obtain ⟨F, hFe⟩ : ∃ F : Nat → Int, F = fun k => L.getD k 0 := ⟨_, rfl⟩
      have hF : ∀ k, Small (F k) := by rw [hFe]; exact hin
      have hF0 : ∀ k, N ≤ k → F k = 0 := by
        intro k hk
        rw [hFe]
        simp [List.getElem?_eq_none (show L.length ≤ k by omega)]
      have hr1 := run_ok (D := D) (by omega) (b := 0) (w := w) (by omega) (by omega) L N hlen hN.1 hN.2 F hFe hF
      have hr2 := run_ok (D := D) (by omega) (b := 0) (w := 0) (by omega) (by omega) L N hlen hN.1 hN.2 F hFe hF
      have hl := ends_loop l L N hlen hN.2 F hFe D w (N % D : Nat) (N % D : Nat) (ring D 0 F N) (ring D 0 F N) D
      have ht := tail_ok (D := D) (by omega) (b := 0) (w := w) (by omega) (by omega) N D (by omega) (by omega) F hF0
      have hs := silent_ok (D := D) (by omega) 0 w F (N + D) (((N + D) % D : Nat) : Int)
      rw [ends_zero (by omega) F N hF0] at hs
      simp -implicitDefEqProofs only [g4, g4_0, asI_i, asN_n, asL_l, asB_b, asE_nil, Bool.cond_decide, hf, altK_1, altK_0, rightL_ok, decide_eq_true h, Bool.not_true, cond_false, if_neg c, new_yes h F, new_yes h2 F, hne, if_false, hr1, hr2, hl, altK_2, ht, if_true, hs, cond_true, awakeL_ok]
  · simp -implicitDefEqProofs only [g4, g4_0, asI_i, asN_n, asL_l, asB_b, asE_nil, Bool.cond_decide, hf, altK_1, altK_0, rightL_ok, decide_eq_false h, Bool.not_false, cond_true, awakeL_ok]
theorem ends_nil (Di b w : Int) : g4 (1, [.i Di, .i b, .i w]) = some (1, [.b true]) := by
  have hne : ∀ x : Int, (x ≠ x) = False := fun x => by simp
  by_cases h : RightE Di 0 w
  · have hh := h
    unfold RightE at hh
    by_cases c : 100 < Di
    · simp -implicitDefEqProofs only [g4, g4_1, asI_i, asN_n, asL_l, asB_b, asE_nil, Bool.cond_decide, few_nil, altK_0, altK_2, altK_3, rightL_ok, decide_eq_true h, Bool.not_true, cond_false, if_pos c, awakeL_ok]
    · obtain ⟨D, rfl⟩ : ∃ D : Nat, Di = D := ⟨Di.toNat, by omega⟩
      have h2 : RightE D 0 0 := by unfold RightE; omega
      have hl : ∀ R Q : List Int, L4_0 (3, [.i 0, .i D, .i 0, .i 0, .i D, .i 0, .i w, .n D, .i 0, .l R, .i D, .i 0, .i 0, .n D, .i 0, .l Q]) = some (4, [.i D, .i 0, .i 0, .i D, .i 0, .i w, .n D, .i 0, .l R, .i D, .i 0, .i 0, .n D, .i 0, .l Q]) := fun R Q => loopL_last (m := 5) (f := f4_0) (j := 4) (by
        simp -implicitDefEqProofs only [f4_0, f4_0_3, asI_i, asN_n, asL_l, asE_nil, Bool.cond_decide, if_neg (Int.lt_irrefl _)])
      have ht := tail_ok (D := D) (by omega) (b := 0) (w := w) (by omega) (by omega) 0 D (by omega) (by omega) (fun _ => 0) (fun _ _ => rfl)
      have ht' : g17 (0, [.i D, .i D, .i 0, .i w, .n D, .i 0, .l (ring D 0 (fun _ => 0) 0)]) = some (1, [.n D, .i D, .i 0, .i w, .n D, .i ((0 + D) % D : Nat), .l (ring D 0 (fun _ => 0) (0 + D)), .l (tells D 0 w (fun _ => 0) 0 D)]) := by
        have z0 : (0 : Nat) % D = 0 := Nat.zero_mod _
        rw [z0] at ht
        exact ht
      have hs := silent_ok (D := D) (by omega) 0 w (fun _ => 0) (0 + D) (((0 + D) % D : Nat) : Int)
      rw [ends_zero (by omega) (fun _ => 0) 0 (fun _ _ => rfl)] at hs
      simp -implicitDefEqProofs only [g4, g4_1, asI_i, asN_n, asL_l, asB_b, asE_nil, Bool.cond_decide, few_nil, altK_0, altK_2, altK_3, rightL_ok, decide_eq_true h, Bool.not_true, cond_false, if_neg c, new_yes h (fun _ => 0), new_yes h2 (fun _ => 0), hne, if_false, run_0, altK_2, hl, ht', altK_1, altK_3, altK_4, altK_5, if_true, hs, cond_true, awakeL_ok]
  · simp -implicitDefEqProofs only [g4, g4_1, asI_i, asN_n, asL_l, asB_b, asE_nil, Bool.cond_decide, few_nil, altK_0, altK_2, altK_3, rightL_ok, decide_eq_false h, Bool.not_false, cond_true, awakeL_ok]
theorem ends_z (Di b w : Int) : g4 (2, [.i Di, .i b, .i w]) = some (2, [.b true]) := by
  have hne : ∀ x : Int, (x ≠ x) = False := fun x => by simp
  by_cases h : RightE Di 0 w
  · have hh := h
    unfold RightE at hh
    by_cases c : 100 < Di
    · simp -implicitDefEqProofs only [g4, g4_2, asI_i, asN_n, asL_l, asB_b, asE_nil, Bool.cond_decide, few_z, altK_0, altK_2, altK_3, rightL_ok, decide_eq_true h, Bool.not_true, cond_false, if_pos c, awakeL_ok]
    · obtain ⟨D, rfl⟩ : ∃ D : Nat, Di = D := ⟨Di.toNat, by omega⟩
      have h2 : RightE D 0 0 := by unfold RightE; omega
      have hl : ∀ R Q : List Int, L4_0 (4, [.i 0, .i D, .i 0, .i 0, .i D, .i 0, .i w, .n D, .i 0, .l R, .i D, .i 0, .i 0, .n D, .i 0, .l Q]) = some (5, [.i D, .i 0, .i 0, .i D, .i 0, .i w, .n D, .i 0, .l R, .i D, .i 0, .i 0, .n D, .i 0, .l Q]) := fun R Q => loopL_last (m := 5) (f := f4_0) (j := 5) (by
        simp -implicitDefEqProofs only [f4_0, f4_0_4, asI_i, asN_n, asL_l, asE_nil, Bool.cond_decide, if_neg (Int.lt_irrefl _)])
      have ht := tail_ok (D := D) (by omega) (b := 0) (w := w) (by omega) (by omega) 0 D (by omega) (by omega) (fun _ => 0) (fun _ _ => rfl)
      have ht' : g17 (0, [.i D, .i D, .i 0, .i w, .n D, .i 0, .l (ring D 0 (fun _ => 0) 0)]) = some (1, [.n D, .i D, .i 0, .i w, .n D, .i ((0 + D) % D : Nat), .l (ring D 0 (fun _ => 0) (0 + D)), .l (tells D 0 w (fun _ => 0) 0 D)]) := by
        have z0 : (0 : Nat) % D = 0 := Nat.zero_mod _
        rw [z0] at ht
        exact ht
      have hs := silent_ok (D := D) (by omega) 0 w (fun _ => 0) (0 + D) (((0 + D) % D : Nat) : Int)
      rw [ends_zero (by omega) (fun _ => 0) 0 (fun _ _ => rfl)] at hs
      simp -implicitDefEqProofs only [g4, g4_2, asI_i, asN_n, asL_l, asB_b, asE_nil, Bool.cond_decide, few_z, altK_0, altK_2, altK_3, rightL_ok, decide_eq_true h, Bool.not_true, cond_false, if_neg c, new_yes h (fun _ => 0), new_yes h2 (fun _ => 0), hne, if_false, run_0, altK_2, hl, ht', altK_1, altK_3, altK_4, altK_5, if_true, hs, cond_true, awakeL_ok]
  · simp -implicitDefEqProofs only [g4, g4_2, asI_i, asN_n, asL_l, asB_b, asE_nil, Bool.cond_decide, few_z, altK_0, altK_2, altK_3, rightL_ok, decide_eq_false h, Bool.not_false, cond_true, awakeL_ok]
theorem ends_l (Di b w : Int) (l : List Int) (n : Nat) (hn : l.length = n * 1) (hm : n ≤ maxLen) : ∃ d, evF tab d 4 [.ints .i64 [Di, b, w], .slice 0 0 n 1] [⟨false, .ints .i64 l⟩] = some (.bool true, [⟨false, .ints .i64 l⟩], []) := by
  have h : g4 (0, [.i Di, .i b, .i w, .n n, .l l]) = some (0, [.b true, .l l]) := by
    unfold maxLen at hm
    by_cases c : n = 0
    · subst c; exact ends_0 Di b w l
    · exact ends_1 Di b w l n (by omega) (by omega) (by omega)
  exact ⟨_, (ok4 0).ret (i := 0) (ls := [.i Di, .i b, .i w, .n n, .l l]) (j := 0) (r := [.b true, .l l]) h rfl rfl rfl rfl⟩
theorem ends_n (Di b w : Int) : ∃ d, evF tab d 4 [.ints .i64 [Di, b, w], .nils] [] = some (.bool true, [], []) :=
  ⟨_, (ok4 0).ret (i := 1) (ls := [.i Di, .i b, .i w]) (j := 1) (r := [.b true]) (ends_nil Di b w) rfl rfl rfl rfl⟩
theorem ends_d (Di b w : Int) : ∃ d, evF tab d 4 [.ints .i64 [Di, b, w], .slice 0 0 0 1] [⟨true, .unk⟩] = some (.bool true, [⟨true, .unk⟩], []) :=
  ⟨_, (ok4 0).ret (i := 2) (ls := [.i Di, .i b, .i w]) (j := 2) (r := [.b true]) (ends_z Di b w) rfl rfl rfl rfl⟩
theorem ends3_l (s : List Int) (hs : s.length = 3) (l : List Int) (n : Nat) (hn : l.length = n * 1) (hm : n ≤ maxLen) : ∃ d, evF tab d 4 [.ints .i64 s, .slice 0 0 n 1] [⟨false, .ints .i64 l⟩] = some (.bool true, [⟨false, .ints .i64 l⟩], []) := by
  match s, hs with
  | [a, b, c], _ => exact ends_l a b c l n hn hm
theorem ends3_n (s : List Int) (hs : s.length = 3) : ∃ d, evF tab d 4 [.ints .i64 s, .nils] [] = some (.bool true, [], []) := by
  match s, hs with
  | [a, b, c], _ => exact ends_n a b c
theorem ends3_d (s : List Int) (hs : s.length = 3) : ∃ d, evF tab d 4 [.ints .i64 s, .slice 0 0 0 1] [⟨true, .unk⟩] = some (.bool true, [⟨true, .unk⟩], []) := by
  match s, hs with
  | [a, b, c], _ => exact ends_d a b c
end Go.Proofs.Ytmmhmccmbohmoaa
