/-
  The law of what any echo tells of any samples, and whether it is silent. Conditions: none.
-/
import Derived.Test.YtmmhmccmbohmoaaEcho
import Derived.Test.YtmmhmccmbohmoaaDecB
namespace Go.Proofs.Ytmmhmccmbohmoaa
open Go Go.Sx
set_option maxRecDepth 100000
set_option linter.unusedVariables false
attribute [local simp] asI_i asB_b asL_l asN_n asS_s asE_nil altK_none altK_0 altK_1 altK_2 altK_3 optK_some optK_none Bool.cond_decide Bool.cond_not Int.toNat_natCast
set_option linter.unusedSimpArgs false
theorem altK_9 {α : Type} (r : List Leaf) (k k1 k2 k3 k4 k5 k6 k7 k8 k9 : List Leaf → α) (ks : List (List Leaf → α)) (z : α) : altK (some (9, r)) (k :: k1 :: k2 :: k3 :: k4 :: k5 :: k6 :: k7 :: k8 :: k9 :: ks) z = k9 r := rfl
theorem nextL_ok {D : Nat} (hD : 1 ≤ D ∧ D ≤ 4096) {b w : Int} (hb : 0 ≤ b ∧ b ≤ 256) (hw : 0 ≤ w ∧ w ≤ 256) (F : Nat → Int) (k : Nat) (hk : k ≤ 1000) (hF : Small (F k)) :
    g12 (0, [.i (F k), .i D, .i b, .i w, .n k, .l (kept D b F k)]) = some (0, [.i (tellV D b w F k), .i D, .i b, .i w, .n (k + 1), .l (kept D b F (k + 1))]) := by
  have ho := old_in D b F k
  have p1 := part_in ho hb
  have p2 := part_in ho hw
  have hlen := kept_len D b F k
  unfold Small at hF
  have e1 : kept D b F (k + 1) = kept D b F k ++ [satV (F k + partV (oldV D (kept D b F k)) b)] := rfl
  have e2 : tellV D b w F k = satV (F k + partV (oldV D (kept D b F k)) w) := rfl
  have w1 : IntKind.i64.wrap (F k + partV (oldV D (kept D b F k)) b) = F k + partV (oldV D (kept D b F k)) b := wrap64 (by omega) (by omega)
  have w2 : IntKind.i64.wrap (F k + partV (oldV D (kept D b F k)) w) = F k + partV (oldV D (kept D b F k)) w := wrap64 (by omega) (by omega)
  have q1 := partL_ok ho hb
  have q2 := partL_ok ho hw
  rw [e1, e2]
  simp -implicitDefEqProofs only [g12, g12_0, asI_i, asN_n, asL_l, asE_nil, Bool.cond_decide]
  by_cases c : (D : Int) ≤ (k : Int)
  · have hx := get_some (l := kept D b F k) (i := k - D) (by omega)
    have hov : oldV D (kept D b F k) = (kept D b F k).getD (k - D) 0 := by unfold oldV; rw [hlen, if_pos (by omega)]
    rw [← hov] at hx
    have w3 : IntKind.i64.wrap ((k : Int) - D) = ((k - D : Nat) : Int) := by rw [wrap64 (by omega) (by omega)]; omega
    simp -implicitDefEqProofs only [if_pos c, w3, if_pos (show (0 : Int) ≤ ((k - D : Nat) : Int) ∧ ((k - D : Nat) : Int) < (k : Int) by omega), Int.toNat_natCast, hx, optK_some, q1, q2, altK_0, asI_i, asE_nil, w1, w2, hold_ok, if_pos (show (k + 1) * 8 ≤ 70368744177664 by omega), if_pos (show (kept D b F k).length = k * 1 by omega)]
  · have hov : oldV D (kept D b F k) = 0 := by unfold oldV; rw [hlen, if_neg (by omega)]
    rw [hov] at q1 q2 w1 w2
    rw [hov]
    simp -implicitDefEqProofs only [if_neg c, q1, q2, altK_0, asI_i, asE_nil, w1, w2, hold_ok, if_pos (show (k + 1) * 8 ≤ 70368744177664 by omega), if_pos (show (kept D b F k).length = k * 1 by omega)]
theorem nextL_0 {D : Nat} (hD : 1 ≤ D ∧ D ≤ 4096) {b w : Int} (hb : 0 ≤ b ∧ b ≤ 256) (hw : 0 ≤ w ∧ w ≤ 256) (F : Nat → Int) (hF : Small (F 0)) :
    g12 (1, [.i (F 0), .i D, .i b, .i w]) = some (1, [.i (tellV D b w F 0), .i D, .i b, .i w, .n 1, .i (newV D b [] (F 0))]) := by
  have ho : -32768 ≤ (0 : Int) ∧ (0 : Int) ≤ 32767 := by omega
  have p1 := part_in ho hb
  have p2 := part_in ho hw
  unfold Small at hF
  have hov : oldV D [] = 0 := by unfold oldV; rw [if_neg (by simp; omega)]
  have e1 : newV D b [] (F 0) = satV (F 0 + partV 0 b) := by unfold newV; rw [hov]
  have e2 : tellV D b w F 0 = satV (F 0 + partV 0 w) := by unfold tellV; rw [show kept D b F 0 = [] from rfl, hov]
  have w1 : IntKind.i64.wrap (F 0 + partV 0 b) = F 0 + partV 0 b := wrap64 (by omega) (by omega)
  have w2 : IntKind.i64.wrap (F 0 + partV 0 w) = F 0 + partV 0 w := wrap64 (by omega) (by omega)
  rw [e1, e2]
  simp -implicitDefEqProofs only [g12, g12_1, asI_i, asE_nil, Bool.cond_decide, if_neg (show ¬ (D : Int) ≤ 0 by omega), partL_ok ho hb, partL_ok ho hw, altK_0, w1, w2, hold_ok]
theorem silentL_ok {D : Nat} (hD : 1 ≤ D ∧ D ≤ 4096) (b w : Int) (F : Nat → Int) (k : Nat) (hk : k ≤ 1000) :
    g14 (0, [.i D, .i b, .i w, .n k, .l (kept D b F k)]) = some (0, [.b (zerosK D b F k), .i D, .i b, .i w, .n k, .l (kept D b F k)]) := by
  have hlen := kept_len D b F k
  generalize hR : kept D b F k = R at *
  have hl := loop1_all (f := f14_0) (fun t => [.i ((t : Int) + 1), .i D, .i b, .i w, .n k, .l R]) (fun t => decide (R.getD (k - 1 - t) 0 = 0)) (min D k) (r1 := [.i D, .i b, .i w, .n k, .l R]) (r2 := [.i D, .i b, .i w, .n k, .l R]) (fun t ht hp => ?_) (fun t ht hp => ?_) ?_ (by omega)
  · have hL : L14_0 (0, [.i 1, .i D, .i b, .i w, .n k, .l R]) = if (List.range (min D k)).all (fun t => decide (R.getD (k - 1 - t) 0 = 0)) = true then some (0, [.i D, .i b, .i w, .n k, .l R]) else some (1, [.i D, .i b, .i w, .n k, .l R]) := hl
    have hz : zerosK D b F k = (List.range (min D k)).all (fun t => decide (R.getD (k - 1 - t) 0 = 0)) := by unfold zerosK; rw [hR]
    rw [hz]
    simp -implicitDefEqProofs only [g14, g14_0, asI_i, asN_n, asL_l, asE_nil, hL]
    cases hc : (List.range (min D k)).all (fun t => decide (R.getD (k - 1 - t) 0 = 0)) with
    | true => rw [if_pos rfl, altK_0]; rfl
    | false => rw [if_neg (by simp), altK_1]; rfl
  · have hx := get_some (l := R) (i := k - 1 - t) (by omega)
    have hp := of_decide_eq_true hp
    have w1 : IntKind.i64.wrap ((k : Int) - ((t : Int) + 1)) = ((k - 1 - t : Nat) : Int) := by rw [wrap64 (by omega) (by omega)]; omega
    have w2 : IntKind.i64.wrap ((t : Int) + 1 + 1) = ((t + 1 : Nat) : Int) + 1 := by rw [wrap64 (by omega) (by omega)]; omega
    simp -implicitDefEqProofs only [f14_0, f14_0_0, asI_i, asN_n, asL_l, asE_nil, Bool.cond_decide, if_pos (show (t : Int) + 1 ≤ (D : Int) by omega), if_pos (show (t : Int) + 1 ≤ (k : Int) by omega), w1, if_pos (show (0 : Int) ≤ ((k - 1 - t : Nat) : Int) ∧ ((k - 1 - t : Nat) : Int) < (k : Int) by omega), Int.toNat_natCast, hx, optK_some, w2]
    rw [if_neg (by omega)]
  · have hx := get_some (l := R) (i := k - 1 - t) (by omega)
    have hp := of_decide_eq_false hp
    have w1 : IntKind.i64.wrap ((k : Int) - ((t : Int) + 1)) = ((k - 1 - t : Nat) : Int) := by rw [wrap64 (by omega) (by omega)]; omega
    simp -implicitDefEqProofs only [f14_0, f14_0_0, asI_i, asN_n, asL_l, asE_nil, Bool.cond_decide, if_pos (show (t : Int) + 1 ≤ (D : Int) by omega), if_pos (show (t : Int) + 1 ≤ (k : Int) by omega), w1, if_pos (show (0 : Int) ≤ ((k - 1 - t : Nat) : Int) ∧ ((k - 1 - t : Nat) : Int) < (k : Int) by omega), Int.toNat_natCast, hx, optK_some]
    rw [if_pos hp]
  · simp -implicitDefEqProofs only [f14_0, f14_0_0, asI_i, asN_n, asL_l, asE_nil, Bool.cond_decide]
    by_cases c : ((min D k : Nat) : Int) + 1 ≤ D
    · rw [if_pos c, if_neg (by omega)]
    · rw [if_neg c]
theorem plays_loop {D : Nat} (hD : 1 ≤ D ∧ D ≤ 4096) {b w : Int} (hb : 0 ≤ b ∧ b ≤ 256) (hw : 0 ≤ w ∧ w ≤ 256) (h0 L : List Int) (N : Nat) (hN : L.length = N) (h1 : 1 ≤ N) (hm : N ≤ 150) (hF : ∀ k, Small (L.getD k 0)) (F : Nat → Int) (hFe : F = fun k => L.getD k 0) :
    L3_0 (1, [.n N, .i 0, .l h0, .i D, .i b, .i w, .l L, .i D, .i b, .i w, .n D, .i 0, .l (ring D b F 0), .i D, .i b, .i w]) = some (9, [.l h0, .i D, .i b, .i w, .l L, .i D, .i b, .i w, .n D, .i (N % D : Nat), .l (ring D b F N), .i D, .i b, .i w, .n N, .l (kept D b F N)]) := by
  have main := loopL_run (m := 6) (f := f3_0) (fun k => if k = 0 then (1, [.n N, .i 0, .l h0, .i D, .i b, .i w, .l L, .i D, .i b, .i w, .n D, .i 0, .l (ring D b F 0), .i D, .i b, .i w]) else (5, [.n N, .i k, .l h0, .i D, .i b, .i w, .l L, .i D, .i b, .i w, .n D, .i (k % D : Nat), .l (ring D b F k), .i D, .i b, .i w, .n k, .l (kept D b F k)])) N (j := 9) (r := [.l h0, .i D, .i b, .i w, .l L, .i D, .i b, .i w, .n D, .i (N % D : Nat), .l (ring D b F N), .i D, .i b, .i w, .n N, .l (kept D b F N)]) (fun k hk => ?_) ?_ (by omega)
  · unfold L3_0; exact main
  · have hx : L[k]? = some (F k) := by rw [hFe]; exact get_some (by omega)
    have hFk : Small (F k) := by rw [hFe]; exact hF k
    have hn := next_ok hD hb hw F k hFk
    have hs := silent_ok hD b w F (k + 1) (((k + 1) % D : Nat) : Int)
    have hsL := silentL_ok hD b w F (k + 1) (by omega)
    have hz := zeros_same hD.1 b F (k + 1)
    have hne : ∀ x : Int, (x ≠ x) = False := fun x => by simp
    have hnb : ∀ x : Bool, (x ≠ x) = False := fun x => by simp
    have w2 : IntKind.i64.wrap ((k : Int) + 1) = ((k + 1 : Nat) : Int) := wrap_nat (n := k + 1) (by omega)
    have k1 : (k : Int) < N := by omega
    have k3 : (0 : Int) ≤ k ∧ (k : Int) < N := by omega
    simp only [Nat.succ_ne_zero, if_false]
    refine ⟨?_, by show 5 < 6; omega⟩
    by_cases q : k = 0
    · subst q
      have hnl := nextL_0 hD hb hw F hFk
      have ek : kept D b F (0 + 1) = [newV D b [] (F 0)] := rfl
      rw [ek] at hsL
      have hx0 : L[Int.toNat 0]? = some (F 0) := hx
      have z0 : (0 : Nat) % D = 0 := Nat.zero_mod _
      rw [z0] at hn
      have hn' : g11 (0, [.i (F 0), .i D, .i b, .i w, .n D, .i 0, .l (ring D b F 0)]) = _ := hn
      have w2' : IntKind.i64.wrap ((0 : Int) + 1) = ((0 + 1 : Nat) : Int) := w2
      rw [if_pos rfl, ek]
      simp -implicitDefEqProofs only [f3_0, f3_0_1, asI_i, asN_n, asL_l, asE_nil, Bool.cond_decide, if_pos (show (0 : Int) < N by omega), if_pos (show (0 : Int) ≤ 0 ∧ (0 : Int) < N by omega), hx0, optK_some, hn', hnl, altK_0, altK_1, asB_b, hne, if_false, hs, hz]
      have hsL' : g14 (0, [.i D, .i b, .i w, .n 1, .l [newV D b [] (F 0)]]) = _ := hsL
      simp -implicitDefEqProofs only [hsL', altK_0, asI_i, asN_n, asL_l, asE_nil, asB_b, hnb, if_false, w2']
    · have hnl := nextL_ok hD hb hw F k (by omega) hFk
      rw [if_neg q]
      simp -implicitDefEqProofs only [f3_0, f3_0_5, asI_i, asN_n, asL_l, asE_nil, Bool.cond_decide, if_pos k1, if_pos k3, Int.toNat_natCast, hx, optK_some, hn, hnl, altK_0, altK_1, asB_b, hne, if_false, hs, hz, hsL, hnb, w2]
  · rw [if_neg (by omega)]
    simp -implicitDefEqProofs only [f3_0, f3_0_5, asI_i, asN_n, asL_l, asE_nil, Bool.cond_decide, if_neg (Int.lt_irrefl _)]
theorem plays_1 (Di b w : Int) (l : List Int) (n : Nat) (hn : l.length = n) (h1 : 1 ≤ n) (hm : n < 9223372036854775808) : g3 (0, [.i Di, .i b, .i w, .n n, .l l]) = some (0, [.b true, .l l]) := by
  have hlen : (fewV l).length = min 150 n := by rw [fewV_len, hn]
  have hne : ∀ x : Int, (x ≠ x) = False := fun x => by simp
  have hnb : ∀ x : Bool, (x ≠ x) = False := fun x => by simp
  have hf := few_ok l n hn h1 hm
  by_cases h : RightE Di b w
  · obtain ⟨D, rfl⟩ : ∃ D : Nat, Di = D := ⟨Di.toNat, by unfold RightE at h; omega⟩
    have hh := h
    unfold RightE at hh
    have hl := plays_loop (D := D) (by omega) (b := b) (w := w) (by omega) (by omega) l (fewV l) (min 150 n) hlen (by omega) (by omega) (fun k => fewV_in l k) (fun k => (fewV l).getD k 0) rfl
    simp -implicitDefEqProofs only [g3, g3_0, asI_i, asN_n, asL_l, asB_b, asE_nil, Bool.cond_decide, hf, altK_1, new_yes h (fun k => (fewV l).getD k 0), altK_0, right_ok, rightL_ok, decide_eq_true h, hnb, hne, if_false, Bool.not_true, cond_false, hl, altK_9, awakeL_ok]
  · simp -implicitDefEqProofs only [g3, g3_0, asI_i, asN_n, asL_l, asB_b, asE_nil, Bool.cond_decide, hf, altK_1, new_no h, altK_0, right_ok, rightL_ok, decide_eq_false h, hnb, if_false, Bool.not_false, cond_true, if_true, awakeL_ok]
theorem plays_0 (Di b w : Int) (l : List Int) : g3 (0, [.i Di, .i b, .i w, .n 0, .l l]) = some (0, [.b true, .l l]) := by
  have hne : ∀ x : Int, (x ≠ x) = False := fun x => by simp
  have hnb : ∀ x : Bool, (x ≠ x) = False := fun x => by simp
  by_cases h : RightE Di b w
  · obtain ⟨D, rfl⟩ : ∃ D : Nat, Di = D := ⟨Di.toNat, by unfold RightE at h; omega⟩
    have hl : ∀ R : List Int, L3_0 (0, [.i 0, .l l, .i D, .i b, .i w, .i D, .i b, .i w, .n D, .i 0, .l R, .i D, .i b, .i w]) = some (0, [.l l, .i D, .i b, .i w, .i D, .i b, .i w, .n D, .i 0, .l R, .i D, .i b, .i w]) := fun R => loopL_last (m := 6) (f := f3_0) (j := 0) (by
      simp -implicitDefEqProofs only [f3_0, f3_0_0, asI_i, asN_n, asL_l, asE_nil, Bool.cond_decide, if_neg (Int.lt_irrefl _)])
    simp -implicitDefEqProofs only [g3, g3_0, asI_i, asN_n, asL_l, asB_b, asE_nil, Bool.cond_decide, few_0, new_yes h (fun k => (fewV l).getD k 0), altK_0, right_ok, rightL_ok, decide_eq_true h, hnb, hne, if_false, Bool.not_true, cond_false, hl, awakeL_ok]
  · simp -implicitDefEqProofs only [g3, g3_0, asI_i, asN_n, asL_l, asB_b, asE_nil, Bool.cond_decide, few_0, new_no h, altK_0, altK_1, right_ok, rightL_ok, decide_eq_false h, hnb, if_false, Bool.not_false, cond_true, if_true, awakeL_ok]
theorem bright : B.g8 = g8 := rfl
theorem brightL : B.g9 = g9 := rfl
theorem bnew : B.g7 = g7 := rfl
theorem bfew_n : B.g6 (0, []) = some (0, []) := by kernel_rfl
theorem bfew_d : B.g6 (1, []) = some (1, []) := by kernel_rfl
theorem plays_n (Di b w : Int) : B.g3 (0, [.i Di, .i b, .i w]) = some (0, [.b true]) := by
  have hne : ∀ x : Int, (x ≠ x) = False := fun x => by simp
  have hnb : ∀ x : Bool, (x ≠ x) = False := fun x => by simp
  by_cases h : RightE Di b w
  · obtain ⟨D, rfl⟩ : ∃ D : Nat, Di = D := ⟨Di.toNat, by unfold RightE at h; omega⟩
    have hl : ∀ R : List Int, B.L3_0 (0, [.i 0, .i D, .i b, .i w, .i D, .i b, .i w, .n D, .i 0, .l R, .i D, .i b, .i w]) = some (0, [.i D, .i b, .i w, .i D, .i b, .i w, .n D, .i 0, .l R, .i D, .i b, .i w]) := fun R => loopL_last (m := 3) (f := B.f3_0) (j := 0) (by
      simp -implicitDefEqProofs only [B.f3_0, B.f3_0_0, asI_i, asN_n, asL_l, asE_nil, Bool.cond_decide, if_neg (Int.lt_irrefl _)])
    simp -implicitDefEqProofs only [B.g3, B.g3_0, asI_i, asN_n, asL_l, asB_b, asE_nil, Bool.cond_decide, bfew_n, bnew, bright, brightL, new_yes h (fun k => 0), altK_0, right_ok, rightL_ok, decide_eq_true h, hnb, hne, if_false, Bool.not_true, cond_false, hl, awakeL_ok]
  · simp -implicitDefEqProofs only [B.g3, B.g3_0, asI_i, asN_n, asL_l, asB_b, asE_nil, Bool.cond_decide, bfew_n, bnew, bright, brightL, new_no h, altK_0, altK_1, right_ok, rightL_ok, decide_eq_false h, hnb, if_false, Bool.not_false, cond_true, if_true, awakeL_ok]
theorem plays_d (Di b w : Int) : B.g3 (1, [.i Di, .i b, .i w]) = some (2, [.b true]) := by
  have hne : ∀ x : Int, (x ≠ x) = False := fun x => by simp
  have hnb : ∀ x : Bool, (x ≠ x) = False := fun x => by simp
  by_cases h : RightE Di b w
  · obtain ⟨D, rfl⟩ : ∃ D : Nat, Di = D := ⟨Di.toNat, by unfold RightE at h; omega⟩
    have hl : ∀ R : List Int, B.L3_0 (2, [.i 0, .i D, .i b, .i w, .i D, .i b, .i w, .n D, .i 0, .l R, .i D, .i b, .i w]) = some (2, [.i D, .i b, .i w, .i D, .i b, .i w, .n D, .i 0, .l R, .i D, .i b, .i w]) := fun R => loopL_last (m := 3) (f := B.f3_0) (j := 2) (by
      simp -implicitDefEqProofs only [B.f3_0, B.f3_0_2, asI_i, asN_n, asL_l, asE_nil, Bool.cond_decide, if_neg (Int.lt_irrefl _)])
    simp -implicitDefEqProofs only [B.g3, B.g3_1, asI_i, asN_n, asL_l, asB_b, asE_nil, Bool.cond_decide, bfew_d, bnew, bright, brightL, new_yes h (fun k => 0), altK_0, altK_1, altK_2, right_ok, rightL_ok, decide_eq_true h, hnb, hne, if_false, Bool.not_true, cond_false, hl, awakeL_ok]
  · simp -implicitDefEqProofs only [B.g3, B.g3_1, asI_i, asN_n, asL_l, asB_b, asE_nil, Bool.cond_decide, bfew_d, bnew, bright, brightL, new_no h, altK_0, altK_1, right_ok, rightL_ok, decide_eq_false h, hnb, if_false, Bool.not_false, cond_true, if_true, awakeL_ok]
theorem ev_l (s : List Int) (h : s.length = 3) (l : List Int) (n : Nat) (hl : l.length = n * 1) (hm : n ≤ maxLen) : ∃ d, evF tab d 3 [.ints .i64 s, .slice 0 0 n 1] [⟨false, .ints .i64 l⟩] = some (.bool true, [⟨false, .ints .i64 l⟩], []) := by
  match s, h with
  | [D, b, w], _ => exact ⟨_, (ok3 0).ret (i := 0) (ls := [.i D, .i b, .i w, .n n, .l l]) (j := 0) (r := [.b true, .l l]) (by
    by_cases h : n = 0
    · subst h; exact plays_0 D b w l
    · exact plays_1 D b w l n (by omega) (by omega) (by have : maxLen = 9223372036854775807 := rfl; omega)) rfl rfl rfl rfl⟩
theorem ev_n (s : List Int) (h : s.length = 3) : ∃ d, evF tab d 3 [.ints .i64 s, .nils] [] = some (.bool true, [], []) := by
  match s, h with
  | [D, b, w], _ => exact ⟨_, (B.ok3 0).ret (i := 0) (ls := [.i D, .i b, .i w]) (j := 0) (r := [.b true]) (plays_n D b w) rfl rfl rfl rfl⟩
theorem ev_d (s : List Int) (h : s.length = 3) : ∃ d, evF tab d 3 [.ints .i64 s, .slice 0 0 0 1] [⟨true, .unk⟩] = some (.bool true, [⟨true, .unk⟩], []) := by
  match s, h with
  | [D, b, w], _ => exact ⟨_, (B.ok3 0).ret (i := 1) (ls := [.i D, .i b, .i w]) (j := 2) (r := [.b true]) (plays_d D b w) rfl rfl rfl rfl⟩
end Go.Proofs.Ytmmhmccmbohmoaa
