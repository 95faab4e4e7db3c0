/-
  The law of the level of two rows together. Conditions: none.
-/
import Derived.Test.YtjekhbenohnpnaaLevels
namespace Go.Proofs.Ytjekhbenohnpnaa
open Go Go.Sx
set_option maxRecDepth 100000
set_option linter.unusedVariables false
attribute [local simp] asI_i asB_b asL_l asN_n asS_s asE_nil altK_none altK_0 altK_1 altK_2 altK_3 optK_some optK_none Bool.cond_decide Bool.cond_not Int.toNat_natCast
set_option linter.unusedSimpArgs false
theorem lvK_congr (F G : Nat → Int) : ∀ k, (∀ i, i < k → F i = G i) → lvK F k = lvK G k
  | 0, _ => rfl
  | k + 1, h => by
    show stp k (lvK F k) (F k) = stp k (lvK G k) (G k)
    rw [lvK_congr F G k fun i hi => h i (by omega), h k (by omega)]
/-- What a row that goes on is like, against its two parts. -/
def Join (j : Nat) (a b w : Lv) : Prop :=
  w.n = a.n + b.n ∧ w.pk = (if b.pk > a.pk then b.pk else a.pk) ∧ (j = 0 ∧ w.lo = a.lo ∧ w.hi = a.hi ∨ 0 < j ∧ w.lo = (if b.lo < a.lo then b.lo else a.lo) ∧ w.hi = (if b.hi > a.hi then b.hi else a.hi)) ∧
  w.sm = a.sm + b.sm ∧ w.pw = a.pw + b.pw ∧ a.cr + b.cr ≤ w.cr ∧ w.cl = a.cl + b.cl ∧ a.ru ≤ w.ru ∧ b.ru ≤ w.ru ∧ (b.last ≠ 0 → w.last = b.last) ∧ b.row ≤ w.row
theorem join_step {m j : Nat} (hm : 1 ≤ m) {a b w : Lv} (hi : Inv m a) (hb : Inv j b) (hw : Inv (m + j) w) (h : Join j a b w) {v : Int} (hv : Small v) : Join (j + 1) a (stp j b v) (stp (m + j) w v) := by
  have ha := abs_small hv
  have hs := sgV_def v
  unfold Small at hv
  unfold Inv at hi hb hw
  unfold Join at h ⊢
  obtain ⟨an, apk, alo, ahi, asm, apw, acr, acl, aru, alast, arow⟩ := a
  obtain ⟨bn, bpk, blo, bhi, bsm, bpw, bcr, bcl, bru, blast, brow⟩ := b
  obtain ⟨wn, wpk, wlo, whi, wsm, wpw, wcr, wcl, wru, wlast, wrow⟩ := w
  simp only [stp] at h hi hb hw ⊢
  rw [ha]
  generalize v * v = q at *
  generalize sgV v = g at *
  obtain ⟨a1, a2, a3, a4, a5, a6, a7, a8, a9, a10, a11⟩ := hi
  obtain ⟨b1, b2, b3, b4, b5, b6, b7, b8, b9, b10, b11⟩ := hb
  obtain ⟨c1, c2, c3, c4, c5, c6, c7, c8, c9, c10, c11⟩ := hw
  obtain ⟨h1, h2, h3, h4, h5, h6, h7, h8, h9, h10, h11⟩ := h
  clear ha a3 a4 a5 a6 a7 a8 b3 b4 b5 b6 b7 b8 c3 c4 c5 c6 c7 c8
  rw [if_neg (show ¬ ((m + j : Nat) : Int) = 0 by omega), if_neg (show ¬ ((m + j : Nat) : Int) = 0 by omega)]
  refine ⟨by omega, ?_, Or.inr ⟨by omega, ?_, ?_⟩, by omega, by omega, ?_, ?_, ?_, ?_, ?_, ?_⟩
  · clear h3 h4 h5 h6 h7 h8 h9 h10 h11
    (repeat' split at h2) <;> (repeat' split) <;> omega
  · clear h2 h4 h5 h6 h7 h8 h9 h10 h11
    rcases h3 with ⟨e, h3, _⟩ | ⟨e, h3, _⟩
    · rw [if_pos (show (j : Int) = 0 by omega)]
      (repeat' split) <;> omega
    · rw [if_neg (show ¬ (j : Int) = 0 by omega)]
      (repeat' split at h3) <;> (repeat' split) <;> omega
  · clear h2 h4 h5 h6 h7 h8 h9 h10 h11
    rcases h3 with ⟨e, _, h3⟩ | ⟨e, _, h3⟩
    · rw [if_pos (show (j : Int) = 0 by omega)]
      (repeat' split) <;> omega
    · rw [if_neg (show ¬ (j : Int) = 0 by omega)]
      (repeat' split at h3) <;> (repeat' split) <;> omega
  · clear h2 h3 h4 h5 h7 h8 h9 h11
    by_cases g0 : g = 0
    · rw [if_neg (fun q => q.1 g0), if_neg (fun q => q.1 g0)]; exact h6
    · by_cases l0 : blast = 0
      · rw [if_neg (fun q => q.2.1 l0)]
        split <;> omega
      · have := h10 l0
        subst this
        (repeat' split) <;> omega
  · split <;> omega
  · clear h2 h3 h6 h10
    (repeat' split) <;> omega
  · clear h2 h3 h6 h10
    (repeat' split) <;> omega
  · clear h2 h3 h6
    by_cases g0 : g = 0
    · rw [if_neg (fun q => q g0), if_neg (fun q => q g0)]; exact h10
    · rw [if_pos g0, if_pos g0]; exact fun _ => rfl
  · clear h2 h3 h6 h10
    (repeat' split) <;> omega
theorem join_all {F G : Nat → Int} (m : Nat) (hm : 1 ≤ m) (hF : ∀ i, Small (F i)) (hG : ∀ i, Small (G i)) (e : ∀ i, F (m + i) = G i) : ∀ j, Join j (lvK F m) (lvK G j) (lvK F (m + j))
  | 0 => by
    have h := lvK_inv F m fun i _ => hF i
    show Join 0 (lvK F m) lv0 (lvK F m)
    generalize lvK F m = a at *
    unfold Inv at h
    unfold Join lv0
    simp only []
    obtain ⟨a1, a2, a3, a4, a5, a6, a7, a8, a9, a10, a11⟩ := h
    refine ⟨by omega, ?_, Or.inl (by simp), by omega, by omega, by omega, by omega, by omega, by omega, by omega, by omega⟩
    split <;> omega
  | j + 1 => by
    have h := join_all m hm hF hG e j
    have := join_step hm (lvK_inv F m fun i _ => hF i) (lvK_inv G j fun i _ => hG i) (lvK_inv F (m + j) fun i _ => hF i) h (hG j)
    show Join (j + 1) (lvK F m) (stp j (lvK G j) (G j)) (stp (m + j) (lvK F (m + j)) (F (m + j)))
    rw [e j]
    exact this
theorem both_e (a0 a1 a2 a3 a4 a5 a6 a7 a8 b0 b1 b2 b3 b4 b5 b6 b7 b8 : Int) : g10 (0, [.l [a0, a1, a2, a3, a4, a5, a6, a7, a8], .l [b0, b1, b2, b3, b4, b5, b6, b7, b8]]) = cond (decide (a0 = 0)) (some (0, [.l [b0, b1, b2, b3, b4, b5, b6, b7, b8]])) (cond (decide (b0 = 0)) (some (0, [.l [a0, a1, a2, a3, a4, a5, a6, a7, a8]])) (some (0, [.l [IntKind.i64.wrap (a0 + b0), if b1 > a1 then b1 else a1, if b2 < a2 then b2 else a2, if b3 > a3 then b3 else a3, IntKind.i64.wrap (a4 + b4), IntKind.i64.wrap (a5 + b5), IntKind.i64.wrap (a6 + b6), IntKind.i64.wrap (a7 + b7), if b8 > a8 then b8 else a8]]))) := by kernel_rfl
theorem len9 (a0 a1 a2 a3 a4 a5 a6 a7 a8 : Int) : List.length [a0, a1, a2, a3, a4, a5, a6, a7, a8] = 9 := rfl
theorem app9 (a0 a1 a2 a3 a4 a5 a6 a7 a8 : Int) : [a0, a1, a2, a3, a4, a5, a6, a7, a8] ++ List.drop 9 [0, 0, 0, 0, 0, 0, 0, 0, 0] = [a0, a1, a2, a3, a4, a5, a6, a7, a8] := rfl
theorem take9 (a0 a1 a2 a3 a4 a5 a6 a7 a8 : Int) : List.take 9 [a0, a1, a2, a3, a4, a5, a6, a7, a8] = [a0, a1, a2, a3, a4, a5, a6, a7, a8] := rfl
theorem get6 (a0 a1 a2 a3 a4 a5 a6 a7 a8 : Int) : ([a0, a1, a2, a3, a4, a5, a6, a7, a8] : List Int)[(6 : Nat)]? = some a6 := rfl
theorem get8 (a0 a1 a2 a3 a4 a5 a6 a7 a8 : Int) : ([a0, a1, a2, a3, a4, a5, a6, a7, a8] : List Int)[(8 : Nat)]? = some a8 := rfl
def runV (x y : Int) : Int := if x < y then y else x
theorem altK_7w {α : Type} (r : List Leaf) (k0 k1 k2 k3 k4 k5 k6 k7 : List Leaf → α) (ks : List (List Leaf → α)) (z : α) : altK (some (7, r)) (k0 :: k1 :: k2 :: k3 :: k4 :: k5 :: k6 :: k7 :: ks) z = k7 r := rfl
theorem altK_8w {α : Type} (r : List Leaf) (k0 k1 k2 k3 k4 k5 k6 k7 k8 : List Leaf → α) (ks : List (List Leaf → α)) (z : α) : altK (some (8, r)) (k0 :: k1 :: k2 :: k3 :: k4 :: k5 :: k6 :: k7 :: k8 :: ks) z = k8 r := rfl
theorem join_ee (a b : List Int) (x0 x1 x2 x3 x4 x5 x6 x7 x8 y0 y1 y2 y3 y4 y5 y6 y7 y8 : Int) (z : List Int) (N : Nat) : L4_0 (0, [.n N, .i 0, .l a, .l b, .i x0, .i x1, .i x2, .i x3, .i x4, .i x5, .i x6, .i x7, .i x8, .i y0, .i y1, .i y2, .i y3, .i y4, .i y5, .i y6, .i y7, .i y8, .l z]) = some (0, [.n N, .l a, .l b, .i x0, .i x1, .i x2, .i x3, .i x4, .i x5, .i x6, .i x7, .i x8, .i y0, .i y1, .i y2, .i y3, .i y4, .i y5, .i y6, .i y7, .i y8, .l z]) := loopL_last (m := 11) (f := f4_0) (j := 0) (by
  simp -implicitDefEqProofs only [f4_0, f4_0_0, asI_i, asN_n, asL_l, asB_b, asE_nil, Bool.cond_decide, if_neg (Int.lt_irrefl _), if_neg (show ¬ (0 : Int) < ((0 : Nat) : Int) by omega)])
theorem run_0 (a b : List Int) (x0 x1 x2 x3 x4 x5 x6 x7 x8 y0 y1 y2 y3 y4 y5 y6 y7 y8 : Int) (z C : List Int) (w0 w1 w2 w3 w4 w5 w6 w7 w8 : Int) (N : Nat) (r : Int) : L4_1 (0, [.n N, .i r, .l a, .l b, .i x0, .i x1, .i x2, .i x3, .i x4, .i x5, .i x6, .i x7, .i x8, .i y0, .i y1, .i y2, .i y3, .i y4, .i y5, .i y6, .i y7, .i y8, .l z, .l C, .i w0, .i w1, .i w2, .i w3, .i w4, .i w5, .i w6, .i w7, .i w8]) = some (0, [.n N, .i (runV r y8), .b (decide (r < y8)), .l a, .l b, .i x0, .i x1, .i x2, .i x3, .i x4, .i x5, .i x6, .i x7, .i x8, .i y0, .i y1, .i y2, .i y3, .i y4, .i y5, .i y6, .i y7, .i y8, .l z, .l C, .i w0, .i w1, .i w2, .i w3, .i w4, .i w5, .i w6, .i w7, .i w8]) := by
  simp -implicitDefEqProofs only [L4_1, f4_1_0, asI_i, asN_n, asL_l, asB_b, asE_nil, Bool.cond_decide, runV]
  by_cases c : r < y8
  · rw [if_pos c, if_pos c, decide_eq_true c]
  · rw [if_neg c, if_neg c, decide_eq_false c]
theorem both_ee (a : List Int) (b : List Int) : g4 (0, [.n 0, .n 0, .l a, .l b]) = some (0, [.b true, .l a, .l b]) := by
  have hne : ∀ x : Int, (x ≠ x) = False := fun x => by simp
  have hb := both_e 0 0 0 0 0 0 0 0 0 0 0 0 0 0 0 0 0 0
  rw [decide_eq_true (show (0 : Int) = 0 from rfl), cond_true] at hb
  have hj := join_ee a b 0 0 0 0 0 0 0 0 0 0 0 0 0 0 0 0 0 0 [0, 0, 0, 0, 0, 0, 0, 0, 0] 0
  have hoE : g11 (0, [.n 0, .l []]) = some (0, [.i 0, .i 0, .i 0, .i 0, .i 0, .i 0, .i 0, .i 0, .i 0, .l []]) := by kernel_rfl
  have hw6 : IntKind.i64.wrap ((0 : Int) + 0) = 0 := wrap64 (by omega) (by omega)
  have er : runV 0 0 = 0 := rfl
  simp -implicitDefEqProofs only [g4, g4_0, asI_i, asN_n, asL_l, asB_b, asE_nil, Bool.cond_decide, few_0, of_nil, lv_nil, altK_0, altK_1, altK_2, altK_3, altK_4, altK_5, altK_6, altK_7w, altK_8w, hb, Nat.zero_add, Nat.mul_one, len9, if_pos (show (9 : Nat) ≤ 9 by omega), app9, take9, get6, get8, optK_some, hj, hne, if_false, if_true, decide_true, hoE, hw6, er, if_neg (Int.lt_irrefl _), run_0, awakeL_ok]
theorem join_ef (a b B : List Int) (x0 x1 x2 x3 x4 x5 x6 x7 x8 y0 y1 y2 y3 y4 y5 y6 y7 y8 : Int) (z : List Int) (nb : Nat) (hB : B.length = nb) (hnb : nb ≤ 200) : L4_0 (1, [.n nb, .n 0, .i 0, .l a, .l b, .l B, .i x0, .i x1, .i x2, .i x3, .i x4, .i x5, .i x6, .i x7, .i x8, .i y0, .i y1, .i y2, .i y3, .i y4, .i y5, .i y6, .i y7, .i y8, .l z, .l []]) = some (1, [.n nb, .l a, .l b, .l B, .i x0, .i x1, .i x2, .i x3, .i x4, .i x5, .i x6, .i x7, .i x8, .i y0, .i y1, .i y2, .i y3, .i y4, .i y5, .i y6, .i y7, .i y8, .l z, .l B]) := by
  have main := loopL_run (m := 11) (f := f4_0) (fun k => (1, [.n nb, .n k, .i k, .l a, .l b, .l B, .i x0, .i x1, .i x2, .i x3, .i x4, .i x5, .i x6, .i x7, .i x8, .i y0, .i y1, .i y2, .i y3, .i y4, .i y5, .i y6, .i y7, .i y8, .l z, .l (B.take k)])) nb (j := 1) (r := [.n nb, .l a, .l b, .l B, .i x0, .i x1, .i x2, .i x3, .i x4, .i x5, .i x6, .i x7, .i x8, .i y0, .i y1, .i y2, .i y3, .i y4, .i y5, .i y6, .i y7, .i y8, .l z, .l B]) (fun k hk => ⟨?_, by show 1 < 11; omega⟩) ?_ (by omega)
  · unfold L4_0; simpa using main
  · have hx : B[k]? = some (B.getD k 0) := get_some (by omega)
    have ht := take_snoc hx
    generalize B.getD k 0 = v at *
    have hlen : List.length (B.take k) = k * 1 := by simp [List.length_take]; omega
    have w2 : IntKind.i64.wrap ((k : Int) + 1) = ((k + 1 : Nat) : Int) := wrap_nat (n := k + 1) (by omega)
    simp -implicitDefEqProofs only [f4_0, f4_0_1, asI_i, asN_n, asL_l, asB_b, asE_nil, Bool.cond_decide, if_pos (show (k : Int) < nb by omega), if_pos (show (0 : Int) ≤ k ∧ (k : Int) < nb by omega), Int.toNat_natCast, hx, optK_some, if_pos (show (k + 1) * 8 ≤ 70368744177664 by omega), if_pos (show (k + 1) * 8 ≤ 70368744177664 by omega), if_pos hlen, w2, ht, List.append_assoc, Nat.add_assoc]
  · rw [List.take_of_length_le (by omega)]
    simp -implicitDefEqProofs only [f4_0, f4_0_1, asI_i, asN_n, asL_l, asB_b, asE_nil, Bool.cond_decide, if_neg (Int.lt_irrefl _)]
theorem run_1 (a b B : List Int) (x0 x1 x2 x3 x4 x5 x6 x7 x8 y0 y1 y2 y3 y4 y5 y6 y7 y8 : Int) (z C : List Int) (w0 w1 w2 w3 w4 w5 w6 w7 w8 : Int) (N : Nat) (r : Int) : L4_1 (1, [.n N, .i r, .l a, .l b, .l B, .i x0, .i x1, .i x2, .i x3, .i x4, .i x5, .i x6, .i x7, .i x8, .i y0, .i y1, .i y2, .i y3, .i y4, .i y5, .i y6, .i y7, .i y8, .l z, .l C, .i w0, .i w1, .i w2, .i w3, .i w4, .i w5, .i w6, .i w7, .i w8]) = some (1, [.n N, .i (runV r y8), .b (decide (r < y8)), .l a, .l b, .l B, .i x0, .i x1, .i x2, .i x3, .i x4, .i x5, .i x6, .i x7, .i x8, .i y0, .i y1, .i y2, .i y3, .i y4, .i y5, .i y6, .i y7, .i y8, .l z, .l C, .i w0, .i w1, .i w2, .i w3, .i w4, .i w5, .i w6, .i w7, .i w8]) := by
  simp -implicitDefEqProofs only [L4_1, f4_1_1, asI_i, asN_n, asL_l, asB_b, asE_nil, Bool.cond_decide, runV]
  by_cases c : r < y8
  · rw [if_pos c, if_pos c, decide_eq_true c]
  · rw [if_neg c, if_neg c, decide_eq_false c]
theorem both_ef (a : List Int) (b : List Int) (m : Nat) (hm' : b.length = m) (h1' : 1 ≤ m) (hmm : m < 9223372036854775808) : g4 (0, [.n 0, .n m, .l a, .l b]) = some (0, [.b true, .l a, .l b]) := by
  have hne : ∀ x : Int, (x ≠ x) = False := fun x => by simp
  have hfB := few_ok b m hm' h1' hmm
  have hlB : (fewV b).length = min 200 m := by rw [fewV_len, hm']
  have hinB := fewV_in b
  have hNB : 1 ≤ min 200 m ∧ min 200 m ≤ 200 := by omega
  generalize fewV b = B at *
  generalize min 200 m = nb at *
  have hoB := of_ok B nb hlB (by omega) (fun k => B.getD k 0) rfl hinB
  have hvB := lv_ok B nb hlB (by omega) (fun k => B.getD k 0) rfl hinB
  have hiB := lvK_inv (fun k => B.getD k 0) nb fun i _ => hinB i
  generalize lvK (fun k => B.getD k 0) nb = s at *
  obtain ⟨y0, y1, y2, y3, y4, y5, y6, y7, y8, y9, y10⟩ := s
  unfold Inv at hiB
  simp only [] at hiB hoB hvB
  obtain ⟨a1, a2, a3, a4, a5, a6, a7, a8, a9, a10, a11⟩ := hiB
  have hb := both_e 0 0 0 0 0 0 0 0 0 y0 y1 y2 y3 y4 y5 y6 y7 y8
  rw [decide_eq_true (show (0 : Int) = 0 from rfl), cond_true] at hb
  have hw6 : IntKind.i64.wrap (0 + y6) = y6 := wrap64 (by omega) (by omega) |>.trans (by omega)
  have er : runV 0 y8 = y8 := by unfold runV; split <;> omega
  have hj := join_ef a b B 0 0 0 0 0 0 0 0 0 y0 y1 y2 y3 y4 y5 y6 y7 y8 [y0, y1, y2, y3, y4, y5, y6, y7, y8] nb hlB hNB.2
  simp -implicitDefEqProofs only [g4, g4_0, asI_i, asN_n, asL_l, asB_b, asE_nil, Bool.cond_decide, hfB, hoB, hvB, few_0, of_nil, lv_nil, altK_0, altK_1, altK_2, altK_3, altK_4, altK_5, altK_6, altK_7w, altK_8w, hb, Nat.zero_add, Nat.mul_one, len9, if_pos (show (9 : Nat) ≤ 9 by omega), app9, take9, get6, get8, optK_some, hj, hne, if_false, if_true, decide_true, hw6, er, if_neg (Int.lt_irrefl _), run_1, awakeL_ok]
theorem join_fe (a b A : List Int) (x0 x1 x2 x3 x4 x5 x6 x7 x8 y0 y1 y2 y3 y4 y5 y6 y7 y8 : Int) (z : List Int) (N : Nat) (C : List Int) : L4_0 (2, [.n N, .i 0, .l a, .l b, .l A, .i x0, .i x1, .i x2, .i x3, .i x4, .i x5, .i x6, .i x7, .i x8, .i y0, .i y1, .i y2, .i y3, .i y4, .i y5, .i y6, .i y7, .i y8, .l z, .l C]) = some (1, [.n N, .l a, .l b, .l A, .i x0, .i x1, .i x2, .i x3, .i x4, .i x5, .i x6, .i x7, .i x8, .i y0, .i y1, .i y2, .i y3, .i y4, .i y5, .i y6, .i y7, .i y8, .l z, .l C]) := loopL_last (m := 11) (f := f4_0) (j := 1) (by
  simp -implicitDefEqProofs only [f4_0, f4_0_2, asI_i, asN_n, asL_l, asB_b, asE_nil, Bool.cond_decide, if_neg (Int.lt_irrefl _), if_neg (show ¬ (0 : Int) < ((0 : Nat) : Int) by omega)])
theorem both_fe (a : List Int) (b : List Int) (n : Nat) (hn : a.length = n) (h1 : 1 ≤ n) (hm : n < 9223372036854775808) : g4 (0, [.n n, .n 0, .l a, .l b]) = some (0, [.b true, .l a, .l b]) := by
  have hne : ∀ x : Int, (x ≠ x) = False := fun x => by simp
  have hfA := few_ok a n hn h1 hm
  have hlA : (fewV a).length = min 200 n := by rw [fewV_len, hn]
  have hinA := fewV_in a
  have hNA : 1 ≤ min 200 n ∧ min 200 n ≤ 200 := by omega
  generalize fewV a = A at *
  generalize min 200 n = na at *
  have hoA := of_ok A na hlA (by omega) (fun k => A.getD k 0) rfl hinA
  have hvA := lv_ok A na hlA (by omega) (fun k => A.getD k 0) rfl hinA
  have hiA := lvK_inv (fun k => A.getD k 0) na fun i _ => hinA i
  generalize lvK (fun k => A.getD k 0) na = s at *
  obtain ⟨x0, x1, x2, x3, x4, x5, x6, x7, x8, x9, x10⟩ := s
  unfold Inv at hiA
  simp only [] at hiA hoA hvA
  obtain ⟨a1, a2, a3, a4, a5, a6, a7, a8, a9, a10, a11⟩ := hiA
  have hb := both_e x0 x1 x2 x3 x4 x5 x6 x7 x8 0 0 0 0 0 0 0 0 0
  rw [decide_eq_false (show ¬ x0 = 0 by omega), cond_false, decide_eq_true (show (0 : Int) = 0 from rfl), cond_true] at hb
  have hw6 : IntKind.i64.wrap (x6 + 0) = x6 := wrap64 (by omega) (by omega) |>.trans (by omega)
  have er : runV x8 0 = x8 := by unfold runV; split <;> omega
  have htk : List.take na A = A := List.take_of_length_le (by omega)
  have hj := join_fe a b A x0 x1 x2 x3 x4 x5 x6 x7 x8 0 0 0 0 0 0 0 0 0 [x0, x1, x2, x3, x4, x5, x6, x7, x8] na A
  simp -implicitDefEqProofs only [g4, g4_0, asI_i, asN_n, asL_l, asB_b, asE_nil, Bool.cond_decide, hfA, hoA, hvA, few_0, of_nil, lv_nil, altK_0, altK_1, altK_2, altK_3, altK_4, altK_5, altK_6, altK_7w, altK_8w, hb, Nat.zero_add, Nat.mul_one, len9, if_pos (show (9 : Nat) ≤ 9 by omega), app9, take9, get6, get8, optK_some, hj, hne, if_false, if_true, decide_true, htk, if_pos (show na * 8 ≤ 70368744177664 by omega), if_pos (show na ≤ A.length by omega), hw6, er, if_neg (Int.lt_irrefl _), run_1, awakeL_ok]
theorem join_ff (a b A B : List Int) (x0 x1 x2 x3 x4 x5 x6 x7 x8 y0 y1 y2 y3 y4 y5 y6 y7 y8 : Int) (z : List Int) (na : Nat) (hA : A.length = na) (hna : na ≤ 200) (nb : Nat) (hB : B.length = nb) (hnb : nb ≤ 200) : L4_0 (3, [.n nb, .n na, .i 0, .l a, .l b, .l A, .l B, .i x0, .i x1, .i x2, .i x3, .i x4, .i x5, .i x6, .i x7, .i x8, .i y0, .i y1, .i y2, .i y3, .i y4, .i y5, .i y6, .i y7, .i y8, .l z, .l A]) = some (2, [.n (na + nb), .l a, .l b, .l A, .l B, .i x0, .i x1, .i x2, .i x3, .i x4, .i x5, .i x6, .i x7, .i x8, .i y0, .i y1, .i y2, .i y3, .i y4, .i y5, .i y6, .i y7, .i y8, .l z, .l (A ++ B)]) := by
  have main := loopL_run (m := 11) (f := f4_0) (fun k => (3, [.n nb, .n (na + k), .i k, .l a, .l b, .l A, .l B, .i x0, .i x1, .i x2, .i x3, .i x4, .i x5, .i x6, .i x7, .i x8, .i y0, .i y1, .i y2, .i y3, .i y4, .i y5, .i y6, .i y7, .i y8, .l z, .l (A ++ B.take k)])) nb (j := 2) (r := [.n (na + nb), .l a, .l b, .l A, .l B, .i x0, .i x1, .i x2, .i x3, .i x4, .i x5, .i x6, .i x7, .i x8, .i y0, .i y1, .i y2, .i y3, .i y4, .i y5, .i y6, .i y7, .i y8, .l z, .l (A ++ B)]) (fun k hk => ⟨?_, by show 3 < 11; omega⟩) ?_ (by omega)
  · unfold L4_0; simpa using main
  · have hx : B[k]? = some (B.getD k 0) := get_some (by omega)
    have ht := take_snoc hx
    generalize B.getD k 0 = v at *
    have hlen : List.length (A ++ B.take k) = (na + k) * 1 := by simp [List.length_take]; omega
    have w2 : IntKind.i64.wrap ((k : Int) + 1) = ((k + 1 : Nat) : Int) := wrap_nat (n := k + 1) (by omega)
    simp -implicitDefEqProofs only [f4_0, f4_0_3, asI_i, asN_n, asL_l, asB_b, asE_nil, Bool.cond_decide, if_pos (show (k : Int) < nb by omega), if_pos (show (0 : Int) ≤ k ∧ (k : Int) < nb by omega), Int.toNat_natCast, hx, optK_some, if_pos (show ((na + k) + 1) * 8 ≤ 70368744177664 by omega), if_pos (show (na + (k + 1)) * 8 ≤ 70368744177664 by omega), if_pos hlen, w2, ht, List.append_assoc, Nat.add_assoc]
  · rw [List.take_of_length_le (by omega)]
    simp -implicitDefEqProofs only [f4_0, f4_0_3, asI_i, asN_n, asL_l, asB_b, asE_nil, Bool.cond_decide, if_neg (Int.lt_irrefl _)]
theorem run_2 (a b A B : List Int) (x0 x1 x2 x3 x4 x5 x6 x7 x8 y0 y1 y2 y3 y4 y5 y6 y7 y8 : Int) (z C : List Int) (w0 w1 w2 w3 w4 w5 w6 w7 w8 : Int) (N : Nat) (r : Int) : L4_1 (2, [.n N, .i r, .l a, .l b, .l A, .l B, .i x0, .i x1, .i x2, .i x3, .i x4, .i x5, .i x6, .i x7, .i x8, .i y0, .i y1, .i y2, .i y3, .i y4, .i y5, .i y6, .i y7, .i y8, .l z, .l C, .i w0, .i w1, .i w2, .i w3, .i w4, .i w5, .i w6, .i w7, .i w8]) = some (2, [.n N, .i (runV r y8), .b (decide (r < y8)), .l a, .l b, .l A, .l B, .i x0, .i x1, .i x2, .i x3, .i x4, .i x5, .i x6, .i x7, .i x8, .i y0, .i y1, .i y2, .i y3, .i y4, .i y5, .i y6, .i y7, .i y8, .l z, .l C, .i w0, .i w1, .i w2, .i w3, .i w4, .i w5, .i w6, .i w7, .i w8]) := by
  simp -implicitDefEqProofs only [L4_1, f4_1_2, asI_i, asN_n, asL_l, asB_b, asE_nil, Bool.cond_decide, runV]
  by_cases c : r < y8
  · rw [if_pos c, if_pos c, decide_eq_true c]
  · rw [if_neg c, if_neg c, decide_eq_false c]
theorem both_ff (a : List Int) (b : List Int) (n : Nat) (hn : a.length = n) (h1 : 1 ≤ n) (hm : n < 9223372036854775808) (m : Nat) (hm' : b.length = m) (h1' : 1 ≤ m) (hmm : m < 9223372036854775808) : g4 (0, [.n n, .n m, .l a, .l b]) = some (0, [.b true, .l a, .l b]) := by
  have hne : ∀ x : Int, (x ≠ x) = False := fun x => by simp
  have hfA := few_ok a n hn h1 hm
  have hlA : (fewV a).length = min 200 n := by rw [fewV_len, hn]
  have hinA := fewV_in a
  have hNA : 1 ≤ min 200 n ∧ min 200 n ≤ 200 := by omega
  generalize fewV a = A at *
  generalize min 200 n = na at *
  have hoA := of_ok A na hlA (by omega) (fun k => A.getD k 0) rfl hinA
  have hvA := lv_ok A na hlA (by omega) (fun k => A.getD k 0) rfl hinA
  have hiA := lvK_inv (fun k => A.getD k 0) na fun i _ => hinA i
  have hfB := few_ok b m hm' h1' hmm
  have hlB : (fewV b).length = min 200 m := by rw [fewV_len, hm']
  have hinB := fewV_in b
  have hNB : 1 ≤ min 200 m ∧ min 200 m ≤ 200 := by omega
  generalize fewV b = B at *
  generalize min 200 m = nb at *
  have hoB := of_ok B nb hlB (by omega) (fun k => B.getD k 0) rfl hinB
  have hvB := lv_ok B nb hlB (by omega) (fun k => B.getD k 0) rfl hinB
  have hiB := lvK_inv (fun k => B.getD k 0) nb fun i _ => hinB i
  have e0 : ∀ i, i < na → (A ++ B).getD i 0 = A.getD i 0 := fun i hi => by simp [List.getElem?_append_left (show i < A.length by omega)]
  have e1 : ∀ i, (A ++ B).getD (na + i) 0 = B.getD i 0 := fun i => by
    simp [List.getElem?_append_right (show A.length ≤ na + i by omega), show na + i - A.length = i by omega]
  have hinW : ∀ i, Small ((A ++ B).getD i 0) := fun i => by
    rcases Nat.lt_or_ge i na with q | q
    · rw [e0 i q]; exact hinA i
    · have := e1 (i - na)
      rw [show na + (i - na) = i by omega] at this
      rw [this]; exact hinB _
  have hoW := of_ok (A ++ B) (na + nb) (by rw [List.length_append]; omega) (by omega) (fun k => (A ++ B).getD k 0) rfl hinW
  have hJ := join_all (F := fun k => (A ++ B).getD k 0) (G := fun k => B.getD k 0) na hNA.1 hinW hinB e1 nb
  rw [lvK_congr (fun k => (A ++ B).getD k 0) (fun k => A.getD k 0) na e0] at hJ
  have hiW := lvK_inv (fun k => (A ++ B).getD k 0) (na + nb) fun i _ => hinW i
  generalize lvK (fun k => (A ++ B).getD k 0) (na + nb) = sw at *
  generalize lvK (fun k => A.getD k 0) na = sa at *
  generalize lvK (fun k => B.getD k 0) nb = sb at *
  obtain ⟨x0, x1, x2, x3, x4, x5, x6, x7, x8, x9, x10⟩ := sa
  obtain ⟨y0, y1, y2, y3, y4, y5, y6, y7, y8, y9, y10⟩ := sb
  obtain ⟨w0, w1, w2, w3, w4, w5, w6, w7, w8, w9, w10⟩ := sw
  unfold Inv at hiA hiB hiW
  unfold Join at hJ
  simp only [] at hiA hiB hiW hoA hvA hoB hvB hoW hJ
  obtain ⟨a1, a2, a3, a4, a5, a6, a7, a8, a9, a10, a11⟩ := hiA
  obtain ⟨b1, b2, b3, b4, b5, b6, b7, b8, b9, b10, b11⟩ := hiB
  obtain ⟨c1, c2, c3, c4, c5, c6, c7, c8, c9, c10, c11⟩ := hiW
  obtain ⟨j1, j2, j3, j4, j5, j6, j7, j8, j9, j10, j11⟩ := hJ
  obtain ⟨-, j3a, j3b⟩ : 0 < nb ∧ w2 = (if y2 < x2 then y2 else x2) ∧ w3 = (if y3 > x3 then y3 else x3) := by
    rcases j3 with ⟨q, _⟩ | q
    · omega
    · exact q
  have hb := both_e x0 x1 x2 x3 x4 x5 x6 x7 x8 y0 y1 y2 y3 y4 y5 y6 y7 y8
  rw [decide_eq_false (show ¬ x0 = 0 by omega), cond_false, decide_eq_false (show ¬ y0 = 0 by omega), cond_false] at hb
  rw [wrap64 (x := x0 + y0) (by omega) (by omega), wrap64 (x := x4 + y4) (by omega) (by omega), wrap64 (x := x5 + y5) (by omega) (by omega), wrap64 (x := x6 + y6) (by omega) (by omega), wrap64 (x := x7 + y7) (by omega) (by omega), ← j1, ← j2, ← j3a, ← j3b, ← j4, ← j5, ← j7] at hb
  have hw6 : IntKind.i64.wrap (x6 + y6) = x6 + y6 := wrap64 (by omega) (by omega)
  have er : runV x8 y8 = (if y8 > x8 then y8 else x8) := by unfold runV; (repeat' split) <;> omega
  have n1 : ¬ w6 < x6 + y6 := by omega
  have n2 : ¬ w8 < (if y8 > x8 then y8 else x8) := by split <;> omega
  have hj := join_ff a b A B x0 x1 x2 x3 x4 x5 x6 x7 x8 y0 y1 y2 y3 y4 y5 y6 y7 y8 [w0, w1, w2, w3, w4, w5, x6 + y6, w7, if y8 > x8 then y8 else x8] na hlA hNA.2 nb hlB hNB.2
  have htk : List.take na A = A := List.take_of_length_le (by omega)
  simp -implicitDefEqProofs only [g4, g4_0, asI_i, asN_n, asL_l, asB_b, asE_nil, Bool.cond_decide, hfA, hoA, hvA, hfB, hoB, hvB, altK_0, altK_1, altK_2, altK_3, altK_4, altK_5, altK_6, altK_7w, altK_8w, hb, Nat.zero_add, Nat.mul_one, len9, if_pos (show (9 : Nat) ≤ 9 by omega), app9, take9, get6, get8, optK_some, hj, hne, if_false, if_true, decide_true, hoW, htk, if_pos (show na * 8 ≤ 70368744177664 by omega), if_pos (show na ≤ A.length by omega), hw6, er, if_neg n1, if_neg n2, run_2, awakeL_ok]
theorem join_ne (b : List Int) (x0 x1 x2 x3 x4 x5 x6 x7 x8 y0 y1 y2 y3 y4 y5 y6 y7 y8 : Int) (z : List Int) (N : Nat) : L4_0 (4, [.n N, .i 0, .l b, .i x0, .i x1, .i x2, .i x3, .i x4, .i x5, .i x6, .i x7, .i x8, .i y0, .i y1, .i y2, .i y3, .i y4, .i y5, .i y6, .i y7, .i y8, .l z]) = some (3, [.n N, .l b, .i x0, .i x1, .i x2, .i x3, .i x4, .i x5, .i x6, .i x7, .i x8, .i y0, .i y1, .i y2, .i y3, .i y4, .i y5, .i y6, .i y7, .i y8, .l z]) := loopL_last (m := 11) (f := f4_0) (j := 3) (by
  simp -implicitDefEqProofs only [f4_0, f4_0_4, asI_i, asN_n, asL_l, asB_b, asE_nil, Bool.cond_decide, if_neg (Int.lt_irrefl _), if_neg (show ¬ (0 : Int) < ((0 : Nat) : Int) by omega)])
theorem run_3 (b : List Int) (x0 x1 x2 x3 x4 x5 x6 x7 x8 y0 y1 y2 y3 y4 y5 y6 y7 y8 : Int) (z C : List Int) (w0 w1 w2 w3 w4 w5 w6 w7 w8 : Int) (N : Nat) (r : Int) : L4_1 (3, [.n N, .i r, .l b, .i x0, .i x1, .i x2, .i x3, .i x4, .i x5, .i x6, .i x7, .i x8, .i y0, .i y1, .i y2, .i y3, .i y4, .i y5, .i y6, .i y7, .i y8, .l z, .l C, .i w0, .i w1, .i w2, .i w3, .i w4, .i w5, .i w6, .i w7, .i w8]) = some (3, [.n N, .i (runV r y8), .b (decide (r < y8)), .l b, .i x0, .i x1, .i x2, .i x3, .i x4, .i x5, .i x6, .i x7, .i x8, .i y0, .i y1, .i y2, .i y3, .i y4, .i y5, .i y6, .i y7, .i y8, .l z, .l C, .i w0, .i w1, .i w2, .i w3, .i w4, .i w5, .i w6, .i w7, .i w8]) := by
  simp -implicitDefEqProofs only [L4_1, f4_1_3, asI_i, asN_n, asL_l, asB_b, asE_nil, Bool.cond_decide, runV]
  by_cases c : r < y8
  · rw [if_pos c, if_pos c, decide_eq_true c]
  · rw [if_neg c, if_neg c, decide_eq_false c]
theorem both_ne (b : List Int) : g4 (1, [.n 0, .l b]) = some (1, [.b true, .l b]) := by
  have hne : ∀ x : Int, (x ≠ x) = False := fun x => by simp
  have hb := both_e 0 0 0 0 0 0 0 0 0 0 0 0 0 0 0 0 0 0
  rw [decide_eq_true (show (0 : Int) = 0 from rfl), cond_true] at hb
  have hj := join_ne b 0 0 0 0 0 0 0 0 0 0 0 0 0 0 0 0 0 0 [0, 0, 0, 0, 0, 0, 0, 0, 0] 0
  have hoE : g11 (0, [.n 0, .l []]) = some (0, [.i 0, .i 0, .i 0, .i 0, .i 0, .i 0, .i 0, .i 0, .i 0, .l []]) := by kernel_rfl
  have hw6 : IntKind.i64.wrap ((0 : Int) + 0) = 0 := wrap64 (by omega) (by omega)
  have er : runV 0 0 = 0 := rfl
  simp -implicitDefEqProofs only [g4, g4_1, asI_i, asN_n, asL_l, asB_b, asE_nil, Bool.cond_decide, few_nil, few_0, of_nil, lv_nil, altK_0, altK_1, altK_2, altK_3, altK_4, altK_5, altK_6, altK_7w, altK_8w, hb, Nat.zero_add, Nat.mul_one, len9, if_pos (show (9 : Nat) ≤ 9 by omega), app9, take9, get6, get8, optK_some, hj, hne, if_false, if_true, decide_true, hoE, hw6, er, if_neg (Int.lt_irrefl _), run_3, awakeL_ok]
theorem join_nf (b B : List Int) (x0 x1 x2 x3 x4 x5 x6 x7 x8 y0 y1 y2 y3 y4 y5 y6 y7 y8 : Int) (z : List Int) (nb : Nat) (hB : B.length = nb) (hnb : nb ≤ 200) : L4_0 (5, [.n nb, .n 0, .i 0, .l b, .l B, .i x0, .i x1, .i x2, .i x3, .i x4, .i x5, .i x6, .i x7, .i x8, .i y0, .i y1, .i y2, .i y3, .i y4, .i y5, .i y6, .i y7, .i y8, .l z, .l []]) = some (4, [.n nb, .l b, .l B, .i x0, .i x1, .i x2, .i x3, .i x4, .i x5, .i x6, .i x7, .i x8, .i y0, .i y1, .i y2, .i y3, .i y4, .i y5, .i y6, .i y7, .i y8, .l z, .l B]) := by
  have main := loopL_run (m := 11) (f := f4_0) (fun k => (5, [.n nb, .n k, .i k, .l b, .l B, .i x0, .i x1, .i x2, .i x3, .i x4, .i x5, .i x6, .i x7, .i x8, .i y0, .i y1, .i y2, .i y3, .i y4, .i y5, .i y6, .i y7, .i y8, .l z, .l (B.take k)])) nb (j := 4) (r := [.n nb, .l b, .l B, .i x0, .i x1, .i x2, .i x3, .i x4, .i x5, .i x6, .i x7, .i x8, .i y0, .i y1, .i y2, .i y3, .i y4, .i y5, .i y6, .i y7, .i y8, .l z, .l B]) (fun k hk => ⟨?_, by show 5 < 11; omega⟩) ?_ (by omega)
  · unfold L4_0; simpa using main
  · have hx : B[k]? = some (B.getD k 0) := get_some (by omega)
    have ht := take_snoc hx
    generalize B.getD k 0 = v at *
    have hlen : List.length (B.take k) = k * 1 := by simp [List.length_take]; omega
    have w2 : IntKind.i64.wrap ((k : Int) + 1) = ((k + 1 : Nat) : Int) := wrap_nat (n := k + 1) (by omega)
    simp -implicitDefEqProofs only [f4_0, f4_0_5, asI_i, asN_n, asL_l, asB_b, asE_nil, Bool.cond_decide, if_pos (show (k : Int) < nb by omega), if_pos (show (0 : Int) ≤ k ∧ (k : Int) < nb by omega), Int.toNat_natCast, hx, optK_some, if_pos (show (k + 1) * 8 ≤ 70368744177664 by omega), if_pos (show (k + 1) * 8 ≤ 70368744177664 by omega), if_pos hlen, w2, ht, List.append_assoc, Nat.add_assoc]
  · rw [List.take_of_length_le (by omega)]
    simp -implicitDefEqProofs only [f4_0, f4_0_5, asI_i, asN_n, asL_l, asB_b, asE_nil, Bool.cond_decide, if_neg (Int.lt_irrefl _)]
theorem run_4 (b B : List Int) (x0 x1 x2 x3 x4 x5 x6 x7 x8 y0 y1 y2 y3 y4 y5 y6 y7 y8 : Int) (z C : List Int) (w0 w1 w2 w3 w4 w5 w6 w7 w8 : Int) (N : Nat) (r : Int) : L4_1 (4, [.n N, .i r, .l b, .l B, .i x0, .i x1, .i x2, .i x3, .i x4, .i x5, .i x6, .i x7, .i x8, .i y0, .i y1, .i y2, .i y3, .i y4, .i y5, .i y6, .i y7, .i y8, .l z, .l C, .i w0, .i w1, .i w2, .i w3, .i w4, .i w5, .i w6, .i w7, .i w8]) = some (4, [.n N, .i (runV r y8), .b (decide (r < y8)), .l b, .l B, .i x0, .i x1, .i x2, .i x3, .i x4, .i x5, .i x6, .i x7, .i x8, .i y0, .i y1, .i y2, .i y3, .i y4, .i y5, .i y6, .i y7, .i y8, .l z, .l C, .i w0, .i w1, .i w2, .i w3, .i w4, .i w5, .i w6, .i w7, .i w8]) := by
  simp -implicitDefEqProofs only [L4_1, f4_1_4, asI_i, asN_n, asL_l, asB_b, asE_nil, Bool.cond_decide, runV]
  by_cases c : r < y8
  · rw [if_pos c, if_pos c, decide_eq_true c]
  · rw [if_neg c, if_neg c, decide_eq_false c]
theorem both_nf (b : List Int) (m : Nat) (hm' : b.length = m) (h1' : 1 ≤ m) (hmm : m < 9223372036854775808) : g4 (1, [.n m, .l b]) = some (1, [.b true, .l b]) := by
  have hne : ∀ x : Int, (x ≠ x) = False := fun x => by simp
  have hfB := few_ok b m hm' h1' hmm
  have hlB : (fewV b).length = min 200 m := by rw [fewV_len, hm']
  have hinB := fewV_in b
  have hNB : 1 ≤ min 200 m ∧ min 200 m ≤ 200 := by omega
  generalize fewV b = B at *
  generalize min 200 m = nb at *
  have hoB := of_ok B nb hlB (by omega) (fun k => B.getD k 0) rfl hinB
  have hvB := lv_ok B nb hlB (by omega) (fun k => B.getD k 0) rfl hinB
  have hiB := lvK_inv (fun k => B.getD k 0) nb fun i _ => hinB i
  generalize lvK (fun k => B.getD k 0) nb = s at *
  obtain ⟨y0, y1, y2, y3, y4, y5, y6, y7, y8, y9, y10⟩ := s
  unfold Inv at hiB
  simp only [] at hiB hoB hvB
  obtain ⟨a1, a2, a3, a4, a5, a6, a7, a8, a9, a10, a11⟩ := hiB
  have hb := both_e 0 0 0 0 0 0 0 0 0 y0 y1 y2 y3 y4 y5 y6 y7 y8
  rw [decide_eq_true (show (0 : Int) = 0 from rfl), cond_true] at hb
  have hw6 : IntKind.i64.wrap (0 + y6) = y6 := wrap64 (by omega) (by omega) |>.trans (by omega)
  have er : runV 0 y8 = y8 := by unfold runV; split <;> omega
  have hj := join_nf b B 0 0 0 0 0 0 0 0 0 y0 y1 y2 y3 y4 y5 y6 y7 y8 [y0, y1, y2, y3, y4, y5, y6, y7, y8] nb hlB hNB.2
  simp -implicitDefEqProofs only [g4, g4_1, asI_i, asN_n, asL_l, asB_b, asE_nil, Bool.cond_decide, hfB, hoB, hvB, few_nil, of_nil, lv_nil, altK_0, altK_1, altK_2, altK_3, altK_4, altK_5, altK_6, altK_7w, altK_8w, hb, Nat.zero_add, Nat.mul_one, len9, if_pos (show (9 : Nat) ≤ 9 by omega), app9, take9, get6, get8, optK_some, hj, hne, if_false, if_true, decide_true, hw6, er, if_neg (Int.lt_irrefl _), run_4, awakeL_ok]
theorem both_en (a : List Int) : g4 (2, [.n 0, .l a]) = some (1, [.b true, .l a]) := by
  have hne : ∀ x : Int, (x ≠ x) = False := fun x => by simp
  have hb := both_e 0 0 0 0 0 0 0 0 0 0 0 0 0 0 0 0 0 0
  rw [decide_eq_true (show (0 : Int) = 0 from rfl), cond_true] at hb
  have hj := join_ne a 0 0 0 0 0 0 0 0 0 0 0 0 0 0 0 0 0 0 [0, 0, 0, 0, 0, 0, 0, 0, 0] 0
  have hoE : g11 (0, [.n 0, .l []]) = some (0, [.i 0, .i 0, .i 0, .i 0, .i 0, .i 0, .i 0, .i 0, .i 0, .l []]) := by kernel_rfl
  have hw6 : IntKind.i64.wrap ((0 : Int) + 0) = 0 := wrap64 (by omega) (by omega)
  have er : runV 0 0 = 0 := rfl
  simp -implicitDefEqProofs only [g4, g4_2, asI_i, asN_n, asL_l, asB_b, asE_nil, Bool.cond_decide, few_0, few_nil, of_nil, lv_nil, altK_0, altK_1, altK_2, altK_3, altK_4, altK_5, altK_6, altK_7w, altK_8w, hb, Nat.zero_add, Nat.mul_one, len9, if_pos (show (9 : Nat) ≤ 9 by omega), app9, take9, get6, get8, optK_some, hj, hne, if_false, if_true, decide_true, hoE, hw6, er, if_neg (Int.lt_irrefl _), run_3, awakeL_ok]
theorem join_fn (a A : List Int) (x0 x1 x2 x3 x4 x5 x6 x7 x8 y0 y1 y2 y3 y4 y5 y6 y7 y8 : Int) (z : List Int) (N : Nat) (C : List Int) : L4_0 (6, [.n N, .i 0, .l a, .l A, .i x0, .i x1, .i x2, .i x3, .i x4, .i x5, .i x6, .i x7, .i x8, .i y0, .i y1, .i y2, .i y3, .i y4, .i y5, .i y6, .i y7, .i y8, .l z, .l C]) = some (4, [.n N, .l a, .l A, .i x0, .i x1, .i x2, .i x3, .i x4, .i x5, .i x6, .i x7, .i x8, .i y0, .i y1, .i y2, .i y3, .i y4, .i y5, .i y6, .i y7, .i y8, .l z, .l C]) := loopL_last (m := 11) (f := f4_0) (j := 4) (by
  simp -implicitDefEqProofs only [f4_0, f4_0_6, asI_i, asN_n, asL_l, asB_b, asE_nil, Bool.cond_decide, if_neg (Int.lt_irrefl _), if_neg (show ¬ (0 : Int) < ((0 : Nat) : Int) by omega)])
theorem both_fn (a : List Int) (n : Nat) (hn : a.length = n) (h1 : 1 ≤ n) (hm : n < 9223372036854775808) : g4 (2, [.n n, .l a]) = some (1, [.b true, .l a]) := by
  have hne : ∀ x : Int, (x ≠ x) = False := fun x => by simp
  have hfA := few_ok a n hn h1 hm
  have hlA : (fewV a).length = min 200 n := by rw [fewV_len, hn]
  have hinA := fewV_in a
  have hNA : 1 ≤ min 200 n ∧ min 200 n ≤ 200 := by omega
  generalize fewV a = A at *
  generalize min 200 n = na at *
  have hoA := of_ok A na hlA (by omega) (fun k => A.getD k 0) rfl hinA
  have hvA := lv_ok A na hlA (by omega) (fun k => A.getD k 0) rfl hinA
  have hiA := lvK_inv (fun k => A.getD k 0) na fun i _ => hinA i
  generalize lvK (fun k => A.getD k 0) na = s at *
  obtain ⟨x0, x1, x2, x3, x4, x5, x6, x7, x8, x9, x10⟩ := s
  unfold Inv at hiA
  simp only [] at hiA hoA hvA
  obtain ⟨a1, a2, a3, a4, a5, a6, a7, a8, a9, a10, a11⟩ := hiA
  have hb := both_e x0 x1 x2 x3 x4 x5 x6 x7 x8 0 0 0 0 0 0 0 0 0
  rw [decide_eq_false (show ¬ x0 = 0 by omega), cond_false, decide_eq_true (show (0 : Int) = 0 from rfl), cond_true] at hb
  have hw6 : IntKind.i64.wrap (x6 + 0) = x6 := wrap64 (by omega) (by omega) |>.trans (by omega)
  have er : runV x8 0 = x8 := by unfold runV; split <;> omega
  have htk : List.take na A = A := List.take_of_length_le (by omega)
  have hj := join_fn a A x0 x1 x2 x3 x4 x5 x6 x7 x8 0 0 0 0 0 0 0 0 0 [x0, x1, x2, x3, x4, x5, x6, x7, x8] na A
  simp -implicitDefEqProofs only [g4, g4_2, asI_i, asN_n, asL_l, asB_b, asE_nil, Bool.cond_decide, hfA, hoA, hvA, few_nil, of_nil, lv_nil, altK_0, altK_1, altK_2, altK_3, altK_4, altK_5, altK_6, altK_7w, altK_8w, hb, Nat.zero_add, Nat.mul_one, len9, if_pos (show (9 : Nat) ≤ 9 by omega), app9, take9, get6, get8, optK_some, hj, hne, if_false, if_true, decide_true, htk, if_pos (show na * 8 ≤ 70368744177664 by omega), if_pos (show na ≤ A.length by omega), hw6, er, if_neg (Int.lt_irrefl _), run_4, awakeL_ok]
theorem join_ze (b : List Int) (x0 x1 x2 x3 x4 x5 x6 x7 x8 y0 y1 y2 y3 y4 y5 y6 y7 y8 : Int) (z : List Int) (N : Nat) : L4_0 (7, [.n N, .i 0, .l b, .i x0, .i x1, .i x2, .i x3, .i x4, .i x5, .i x6, .i x7, .i x8, .i y0, .i y1, .i y2, .i y3, .i y4, .i y5, .i y6, .i y7, .i y8, .l z]) = some (5, [.n N, .l b, .i x0, .i x1, .i x2, .i x3, .i x4, .i x5, .i x6, .i x7, .i x8, .i y0, .i y1, .i y2, .i y3, .i y4, .i y5, .i y6, .i y7, .i y8, .l z]) := loopL_last (m := 11) (f := f4_0) (j := 5) (by
  simp -implicitDefEqProofs only [f4_0, f4_0_7, asI_i, asN_n, asL_l, asB_b, asE_nil, Bool.cond_decide, if_neg (Int.lt_irrefl _), if_neg (show ¬ (0 : Int) < ((0 : Nat) : Int) by omega)])
theorem run_5 (b : List Int) (x0 x1 x2 x3 x4 x5 x6 x7 x8 y0 y1 y2 y3 y4 y5 y6 y7 y8 : Int) (z C : List Int) (w0 w1 w2 w3 w4 w5 w6 w7 w8 : Int) (N : Nat) (r : Int) : L4_1 (5, [.n N, .i r, .l b, .i x0, .i x1, .i x2, .i x3, .i x4, .i x5, .i x6, .i x7, .i x8, .i y0, .i y1, .i y2, .i y3, .i y4, .i y5, .i y6, .i y7, .i y8, .l z, .l C, .i w0, .i w1, .i w2, .i w3, .i w4, .i w5, .i w6, .i w7, .i w8]) = some (5, [.n N, .i (runV r y8), .b (decide (r < y8)), .l b, .i x0, .i x1, .i x2, .i x3, .i x4, .i x5, .i x6, .i x7, .i x8, .i y0, .i y1, .i y2, .i y3, .i y4, .i y5, .i y6, .i y7, .i y8, .l z, .l C, .i w0, .i w1, .i w2, .i w3, .i w4, .i w5, .i w6, .i w7, .i w8]) := by
  simp -implicitDefEqProofs only [L4_1, f4_1_5, asI_i, asN_n, asL_l, asB_b, asE_nil, Bool.cond_decide, runV]
  by_cases c : r < y8
  · rw [if_pos c, if_pos c, decide_eq_true c]
  · rw [if_neg c, if_neg c, decide_eq_false c]
theorem both_ze (b : List Int) : g4 (3, [.n 0, .l b]) = some (2, [.b true, .l b]) := by
  have hne : ∀ x : Int, (x ≠ x) = False := fun x => by simp
  have hb := both_e 0 0 0 0 0 0 0 0 0 0 0 0 0 0 0 0 0 0
  rw [decide_eq_true (show (0 : Int) = 0 from rfl), cond_true] at hb
  have hj := join_ze b 0 0 0 0 0 0 0 0 0 0 0 0 0 0 0 0 0 0 [0, 0, 0, 0, 0, 0, 0, 0, 0] 0
  have hoE : g11 (0, [.n 0, .l []]) = some (0, [.i 0, .i 0, .i 0, .i 0, .i 0, .i 0, .i 0, .i 0, .i 0, .l []]) := by kernel_rfl
  have hw6 : IntKind.i64.wrap ((0 : Int) + 0) = 0 := wrap64 (by omega) (by omega)
  have er : runV 0 0 = 0 := rfl
  simp -implicitDefEqProofs only [g4, g4_3, asI_i, asN_n, asL_l, asB_b, asE_nil, Bool.cond_decide, few_z, few_0, of_nil, lv_nil, altK_0, altK_1, altK_2, altK_3, altK_4, altK_5, altK_6, altK_7w, altK_8w, hb, Nat.zero_add, Nat.mul_one, len9, if_pos (show (9 : Nat) ≤ 9 by omega), app9, take9, get6, get8, optK_some, hj, hne, if_false, if_true, decide_true, hoE, hw6, er, if_neg (Int.lt_irrefl _), run_5, awakeL_ok]
theorem join_zf (b B : List Int) (x0 x1 x2 x3 x4 x5 x6 x7 x8 y0 y1 y2 y3 y4 y5 y6 y7 y8 : Int) (z : List Int) (nb : Nat) (hB : B.length = nb) (hnb : nb ≤ 200) : L4_0 (8, [.n nb, .n 0, .i 0, .l b, .l B, .i x0, .i x1, .i x2, .i x3, .i x4, .i x5, .i x6, .i x7, .i x8, .i y0, .i y1, .i y2, .i y3, .i y4, .i y5, .i y6, .i y7, .i y8, .l z, .l []]) = some (6, [.n nb, .l b, .l B, .i x0, .i x1, .i x2, .i x3, .i x4, .i x5, .i x6, .i x7, .i x8, .i y0, .i y1, .i y2, .i y3, .i y4, .i y5, .i y6, .i y7, .i y8, .l z, .l B]) := by
  have main := loopL_run (m := 11) (f := f4_0) (fun k => (8, [.n nb, .n k, .i k, .l b, .l B, .i x0, .i x1, .i x2, .i x3, .i x4, .i x5, .i x6, .i x7, .i x8, .i y0, .i y1, .i y2, .i y3, .i y4, .i y5, .i y6, .i y7, .i y8, .l z, .l (B.take k)])) nb (j := 6) (r := [.n nb, .l b, .l B, .i x0, .i x1, .i x2, .i x3, .i x4, .i x5, .i x6, .i x7, .i x8, .i y0, .i y1, .i y2, .i y3, .i y4, .i y5, .i y6, .i y7, .i y8, .l z, .l B]) (fun k hk => ⟨?_, by show 8 < 11; omega⟩) ?_ (by omega)
  · unfold L4_0; simpa using main
  · have hx : B[k]? = some (B.getD k 0) := get_some (by omega)
    have ht := take_snoc hx
    generalize B.getD k 0 = v at *
    have hlen : List.length (B.take k) = k * 1 := by simp [List.length_take]; omega
    have w2 : IntKind.i64.wrap ((k : Int) + 1) = ((k + 1 : Nat) : Int) := wrap_nat (n := k + 1) (by omega)
    simp -implicitDefEqProofs only [f4_0, f4_0_8, asI_i, asN_n, asL_l, asB_b, asE_nil, Bool.cond_decide, if_pos (show (k : Int) < nb by omega), if_pos (show (0 : Int) ≤ k ∧ (k : Int) < nb by omega), Int.toNat_natCast, hx, optK_some, if_pos (show (k + 1) * 8 ≤ 70368744177664 by omega), if_pos (show (k + 1) * 8 ≤ 70368744177664 by omega), if_pos hlen, w2, ht, List.append_assoc, Nat.add_assoc]
  · rw [List.take_of_length_le (by omega)]
    simp -implicitDefEqProofs only [f4_0, f4_0_8, asI_i, asN_n, asL_l, asB_b, asE_nil, Bool.cond_decide, if_neg (Int.lt_irrefl _)]
theorem run_6 (b B : List Int) (x0 x1 x2 x3 x4 x5 x6 x7 x8 y0 y1 y2 y3 y4 y5 y6 y7 y8 : Int) (z C : List Int) (w0 w1 w2 w3 w4 w5 w6 w7 w8 : Int) (N : Nat) (r : Int) : L4_1 (6, [.n N, .i r, .l b, .l B, .i x0, .i x1, .i x2, .i x3, .i x4, .i x5, .i x6, .i x7, .i x8, .i y0, .i y1, .i y2, .i y3, .i y4, .i y5, .i y6, .i y7, .i y8, .l z, .l C, .i w0, .i w1, .i w2, .i w3, .i w4, .i w5, .i w6, .i w7, .i w8]) = some (6, [.n N, .i (runV r y8), .b (decide (r < y8)), .l b, .l B, .i x0, .i x1, .i x2, .i x3, .i x4, .i x5, .i x6, .i x7, .i x8, .i y0, .i y1, .i y2, .i y3, .i y4, .i y5, .i y6, .i y7, .i y8, .l z, .l C, .i w0, .i w1, .i w2, .i w3, .i w4, .i w5, .i w6, .i w7, .i w8]) := by
  simp -implicitDefEqProofs only [L4_1, f4_1_6, asI_i, asN_n, asL_l, asB_b, asE_nil, Bool.cond_decide, runV]
  by_cases c : r < y8
  · rw [if_pos c, if_pos c, decide_eq_true c]
  · rw [if_neg c, if_neg c, decide_eq_false c]
theorem both_zf (b : List Int) (m : Nat) (hm' : b.length = m) (h1' : 1 ≤ m) (hmm : m < 9223372036854775808) : g4 (3, [.n m, .l b]) = some (2, [.b true, .l b]) := by
  have hne : ∀ x : Int, (x ≠ x) = False := fun x => by simp
  have hfB := few_ok b m hm' h1' hmm
  have hlB : (fewV b).length = min 200 m := by rw [fewV_len, hm']
  have hinB := fewV_in b
  have hNB : 1 ≤ min 200 m ∧ min 200 m ≤ 200 := by omega
  generalize fewV b = B at *
  generalize min 200 m = nb at *
  have hoB := of_ok B nb hlB (by omega) (fun k => B.getD k 0) rfl hinB
  have hvB := lv_ok B nb hlB (by omega) (fun k => B.getD k 0) rfl hinB
  have hiB := lvK_inv (fun k => B.getD k 0) nb fun i _ => hinB i
  generalize lvK (fun k => B.getD k 0) nb = s at *
  obtain ⟨y0, y1, y2, y3, y4, y5, y6, y7, y8, y9, y10⟩ := s
  unfold Inv at hiB
  simp only [] at hiB hoB hvB
  obtain ⟨a1, a2, a3, a4, a5, a6, a7, a8, a9, a10, a11⟩ := hiB
  have hb := both_e 0 0 0 0 0 0 0 0 0 y0 y1 y2 y3 y4 y5 y6 y7 y8
  rw [decide_eq_true (show (0 : Int) = 0 from rfl), cond_true] at hb
  have hw6 : IntKind.i64.wrap (0 + y6) = y6 := wrap64 (by omega) (by omega) |>.trans (by omega)
  have er : runV 0 y8 = y8 := by unfold runV; split <;> omega
  have hj := join_zf b B 0 0 0 0 0 0 0 0 0 y0 y1 y2 y3 y4 y5 y6 y7 y8 [y0, y1, y2, y3, y4, y5, y6, y7, y8] nb hlB hNB.2
  simp -implicitDefEqProofs only [g4, g4_3, asI_i, asN_n, asL_l, asB_b, asE_nil, Bool.cond_decide, hfB, hoB, hvB, few_z, of_nil, lv_nil, altK_0, altK_1, altK_2, altK_3, altK_4, altK_5, altK_6, altK_7w, altK_8w, hb, Nat.zero_add, Nat.mul_one, len9, if_pos (show (9 : Nat) ≤ 9 by omega), app9, take9, get6, get8, optK_some, hj, hne, if_false, if_true, decide_true, hw6, er, if_neg (Int.lt_irrefl _), run_6, awakeL_ok]
theorem join_ez (a : List Int) (x0 x1 x2 x3 x4 x5 x6 x7 x8 y0 y1 y2 y3 y4 y5 y6 y7 y8 : Int) (z : List Int) (N : Nat) : L4_0 (9, [.n N, .i 0, .l a, .i x0, .i x1, .i x2, .i x3, .i x4, .i x5, .i x6, .i x7, .i x8, .i y0, .i y1, .i y2, .i y3, .i y4, .i y5, .i y6, .i y7, .i y8, .l z]) = some (7, [.n N, .l a, .i x0, .i x1, .i x2, .i x3, .i x4, .i x5, .i x6, .i x7, .i x8, .i y0, .i y1, .i y2, .i y3, .i y4, .i y5, .i y6, .i y7, .i y8, .l z]) := loopL_last (m := 11) (f := f4_0) (j := 7) (by
  simp -implicitDefEqProofs only [f4_0, f4_0_9, asI_i, asN_n, asL_l, asB_b, asE_nil, Bool.cond_decide, if_neg (Int.lt_irrefl _), if_neg (show ¬ (0 : Int) < ((0 : Nat) : Int) by omega)])
theorem run_7 (a : List Int) (x0 x1 x2 x3 x4 x5 x6 x7 x8 y0 y1 y2 y3 y4 y5 y6 y7 y8 : Int) (z C : List Int) (w0 w1 w2 w3 w4 w5 w6 w7 w8 : Int) (N : Nat) (r : Int) : L4_1 (7, [.n N, .i r, .l a, .i x0, .i x1, .i x2, .i x3, .i x4, .i x5, .i x6, .i x7, .i x8, .i y0, .i y1, .i y2, .i y3, .i y4, .i y5, .i y6, .i y7, .i y8, .l z, .l C, .i w0, .i w1, .i w2, .i w3, .i w4, .i w5, .i w6, .i w7, .i w8]) = some (7, [.n N, .i (runV r y8), .b (decide (r < y8)), .l a, .i x0, .i x1, .i x2, .i x3, .i x4, .i x5, .i x6, .i x7, .i x8, .i y0, .i y1, .i y2, .i y3, .i y4, .i y5, .i y6, .i y7, .i y8, .l z, .l C, .i w0, .i w1, .i w2, .i w3, .i w4, .i w5, .i w6, .i w7, .i w8]) := by
  simp -implicitDefEqProofs only [L4_1, f4_1_7, asI_i, asN_n, asL_l, asB_b, asE_nil, Bool.cond_decide, runV]
  by_cases c : r < y8
  · rw [if_pos c, if_pos c, decide_eq_true c]
  · rw [if_neg c, if_neg c, decide_eq_false c]
theorem both_ez (a : List Int) : g4 (4, [.n 0, .l a]) = some (3, [.b true, .l a]) := by
  have hne : ∀ x : Int, (x ≠ x) = False := fun x => by simp
  have hb := both_e 0 0 0 0 0 0 0 0 0 0 0 0 0 0 0 0 0 0
  rw [decide_eq_true (show (0 : Int) = 0 from rfl), cond_true] at hb
  have hj := join_ez a 0 0 0 0 0 0 0 0 0 0 0 0 0 0 0 0 0 0 [0, 0, 0, 0, 0, 0, 0, 0, 0] 0
  have hoE : g11 (0, [.n 0, .l []]) = some (0, [.i 0, .i 0, .i 0, .i 0, .i 0, .i 0, .i 0, .i 0, .i 0, .l []]) := by kernel_rfl
  have hw6 : IntKind.i64.wrap ((0 : Int) + 0) = 0 := wrap64 (by omega) (by omega)
  have er : runV 0 0 = 0 := rfl
  simp -implicitDefEqProofs only [g4, g4_4, asI_i, asN_n, asL_l, asB_b, asE_nil, Bool.cond_decide, few_0, few_z, of_nil, lv_nil, altK_0, altK_1, altK_2, altK_3, altK_4, altK_5, altK_6, altK_7w, altK_8w, hb, Nat.zero_add, Nat.mul_one, len9, if_pos (show (9 : Nat) ≤ 9 by omega), app9, take9, get6, get8, optK_some, hj, hne, if_false, if_true, decide_true, hoE, hw6, er, if_neg (Int.lt_irrefl _), run_7, awakeL_ok]
theorem join_fz (a A : List Int) (x0 x1 x2 x3 x4 x5 x6 x7 x8 y0 y1 y2 y3 y4 y5 y6 y7 y8 : Int) (z : List Int) (N : Nat) (C : List Int) : L4_0 (10, [.n N, .i 0, .l a, .l A, .i x0, .i x1, .i x2, .i x3, .i x4, .i x5, .i x6, .i x7, .i x8, .i y0, .i y1, .i y2, .i y3, .i y4, .i y5, .i y6, .i y7, .i y8, .l z, .l C]) = some (8, [.n N, .l a, .l A, .i x0, .i x1, .i x2, .i x3, .i x4, .i x5, .i x6, .i x7, .i x8, .i y0, .i y1, .i y2, .i y3, .i y4, .i y5, .i y6, .i y7, .i y8, .l z, .l C]) := loopL_last (m := 11) (f := f4_0) (j := 8) (by
  simp -implicitDefEqProofs only [f4_0, f4_0_10, asI_i, asN_n, asL_l, asB_b, asE_nil, Bool.cond_decide, if_neg (Int.lt_irrefl _), if_neg (show ¬ (0 : Int) < ((0 : Nat) : Int) by omega)])
theorem run_8 (a A : List Int) (x0 x1 x2 x3 x4 x5 x6 x7 x8 y0 y1 y2 y3 y4 y5 y6 y7 y8 : Int) (z C : List Int) (w0 w1 w2 w3 w4 w5 w6 w7 w8 : Int) (N : Nat) (r : Int) : L4_1 (8, [.n N, .i r, .l a, .l A, .i x0, .i x1, .i x2, .i x3, .i x4, .i x5, .i x6, .i x7, .i x8, .i y0, .i y1, .i y2, .i y3, .i y4, .i y5, .i y6, .i y7, .i y8, .l z, .l C, .i w0, .i w1, .i w2, .i w3, .i w4, .i w5, .i w6, .i w7, .i w8]) = some (8, [.n N, .i (runV r y8), .b (decide (r < y8)), .l a, .l A, .i x0, .i x1, .i x2, .i x3, .i x4, .i x5, .i x6, .i x7, .i x8, .i y0, .i y1, .i y2, .i y3, .i y4, .i y5, .i y6, .i y7, .i y8, .l z, .l C, .i w0, .i w1, .i w2, .i w3, .i w4, .i w5, .i w6, .i w7, .i w8]) := by
  simp -implicitDefEqProofs only [L4_1, f4_1_8, asI_i, asN_n, asL_l, asB_b, asE_nil, Bool.cond_decide, runV]
  by_cases c : r < y8
  · rw [if_pos c, if_pos c, decide_eq_true c]
  · rw [if_neg c, if_neg c, decide_eq_false c]
theorem both_fz (a : List Int) (n : Nat) (hn : a.length = n) (h1 : 1 ≤ n) (hm : n < 9223372036854775808) : g4 (4, [.n n, .l a]) = some (3, [.b true, .l a]) := by
  have hne : ∀ x : Int, (x ≠ x) = False := fun x => by simp
  have hfA := few_ok a n hn h1 hm
  have hlA : (fewV a).length = min 200 n := by rw [fewV_len, hn]
  have hinA := fewV_in a
  have hNA : 1 ≤ min 200 n ∧ min 200 n ≤ 200 := by omega
  generalize fewV a = A at *
  generalize min 200 n = na at *
  have hoA := of_ok A na hlA (by omega) (fun k => A.getD k 0) rfl hinA
  have hvA := lv_ok A na hlA (by omega) (fun k => A.getD k 0) rfl hinA
  have hiA := lvK_inv (fun k => A.getD k 0) na fun i _ => hinA i
  generalize lvK (fun k => A.getD k 0) na = s at *
  obtain ⟨x0, x1, x2, x3, x4, x5, x6, x7, x8, x9, x10⟩ := s
  unfold Inv at hiA
  simp only [] at hiA hoA hvA
  obtain ⟨a1, a2, a3, a4, a5, a6, a7, a8, a9, a10, a11⟩ := hiA
  have hb := both_e x0 x1 x2 x3 x4 x5 x6 x7 x8 0 0 0 0 0 0 0 0 0
  rw [decide_eq_false (show ¬ x0 = 0 by omega), cond_false, decide_eq_true (show (0 : Int) = 0 from rfl), cond_true] at hb
  have hw6 : IntKind.i64.wrap (x6 + 0) = x6 := wrap64 (by omega) (by omega) |>.trans (by omega)
  have er : runV x8 0 = x8 := by unfold runV; split <;> omega
  have htk : List.take na A = A := List.take_of_length_le (by omega)
  have hj := join_fz a A x0 x1 x2 x3 x4 x5 x6 x7 x8 0 0 0 0 0 0 0 0 0 [x0, x1, x2, x3, x4, x5, x6, x7, x8] na A
  simp -implicitDefEqProofs only [g4, g4_4, asI_i, asN_n, asL_l, asB_b, asE_nil, Bool.cond_decide, hfA, hoA, hvA, few_z, of_nil, lv_nil, altK_0, altK_1, altK_2, altK_3, altK_4, altK_5, altK_6, altK_7w, altK_8w, hb, Nat.zero_add, Nat.mul_one, len9, if_pos (show (9 : Nat) ≤ 9 by omega), app9, take9, get6, get8, optK_some, hj, hne, if_false, if_true, decide_true, htk, if_pos (show na * 8 ≤ 70368744177664 by omega), if_pos (show na ≤ A.length by omega), hw6, er, if_neg (Int.lt_irrefl _), run_8, awakeL_ok]
theorem ev_ll (a : List Int) (n : Nat) (hn : a.length = n * 1) (hm : n ≤ maxLen) (b : List Int) (m : Nat) (hn' : b.length = m * 1) (hm' : m ≤ maxLen) : ∃ d, evF tab d 4 [.slice 0 0 n 1, .slice 1 0 m 1] [⟨false, .ints .i64 a⟩, ⟨false, .ints .i64 b⟩] = some (.bool true, [⟨false, .ints .i64 a⟩, ⟨false, .ints .i64 b⟩], []) := by
  have h : g4 (0, [.n n, .n m, .l a, .l b]) = some (0, [.b true, .l a, .l b]) := by
    unfold maxLen at *
    by_cases c : n = 0
    · subst c
      by_cases c' : m = 0
      · subst c'; exact both_ee a b
      · exact both_ef a b m (by omega) (by omega) (by omega)
    · by_cases c' : m = 0
      · subst c'; exact both_fe a b n (by omega) (by omega) (by omega)
      · exact both_ff a b n (by omega) (by omega) (by omega) m (by omega) (by omega) (by omega)
  exact ⟨_, (ok4 0).ret (i := 0) (ls := [.n n, .n m, .l a, .l b]) (j := 0) (r := [.b true, .l a, .l b]) h rfl rfl rfl rfl⟩
theorem ev_nl (b : List Int) (m : Nat) (hn' : b.length = m * 1) (hm' : m ≤ maxLen) : ∃ d, evF tab d 4 [.nils, .slice 0 0 m 1] [⟨false, .ints .i64 b⟩] = some (.bool true, [⟨false, .ints .i64 b⟩], []) := by
  have h : g4 (1, [.n m, .l b]) = some (1, [.b true, .l b]) := by
    unfold maxLen at *
    by_cases c' : m = 0
    · subst c'; exact both_ne b
    · exact both_nf b m (by omega) (by omega) (by omega)
  exact ⟨_, (ok4 0).ret (i := 1) (ls := [.n m, .l b]) (j := 1) (r := [.b true, .l b]) h rfl rfl rfl rfl⟩
theorem ev_ln (a : List Int) (n : Nat) (hn : a.length = n * 1) (hm : n ≤ maxLen) : ∃ d, evF tab d 4 [.slice 0 0 n 1, .nils] [⟨false, .ints .i64 a⟩] = some (.bool true, [⟨false, .ints .i64 a⟩], []) := by
  have h : g4 (2, [.n n, .l a]) = some (1, [.b true, .l a]) := by
    unfold maxLen at *
    by_cases c : n = 0
    · subst c; exact both_en a
    · exact both_fn a n (by omega) (by omega) (by omega)
  exact ⟨_, (ok4 0).ret (i := 2) (ls := [.n n, .l a]) (j := 1) (r := [.b true, .l a]) h rfl rfl rfl rfl⟩
theorem ev_dl (b : List Int) (m : Nat) (hn' : b.length = m * 1) (hm' : m ≤ maxLen) : ∃ d, evF tab d 4 [.slice 0 0 0 1, .slice 1 0 m 1] [⟨true, .unk⟩, ⟨false, .ints .i64 b⟩] = some (.bool true, [⟨true, .unk⟩, ⟨false, .ints .i64 b⟩], []) := by
  have h : g4 (3, [.n m, .l b]) = some (2, [.b true, .l b]) := by
    unfold maxLen at *
    by_cases c' : m = 0
    · subst c'; exact both_ze b
    · exact both_zf b m (by omega) (by omega) (by omega)
  exact ⟨_, (ok4 0).ret (i := 3) (ls := [.n m, .l b]) (j := 2) (r := [.b true, .l b]) h rfl rfl rfl rfl⟩
theorem ev_ld (a : List Int) (n : Nat) (hn : a.length = n * 1) (hm : n ≤ maxLen) : ∃ d, evF tab d 4 [.slice 0 0 n 1, .slice 1 0 0 1] [⟨false, .ints .i64 a⟩, ⟨true, .unk⟩] = some (.bool true, [⟨false, .ints .i64 a⟩, ⟨true, .unk⟩], []) := by
  have h : g4 (4, [.n n, .l a]) = some (3, [.b true, .l a]) := by
    unfold maxLen at *
    by_cases c : n = 0
    · subst c; exact both_ez a
    · exact both_fz a n (by omega) (by omega) (by omega)
  exact ⟨_, (ok4 0).ret (i := 4) (ls := [.n n, .l a]) (j := 3) (r := [.b true, .l a]) h rfl rfl rfl rfl⟩
theorem ev_nn : evF tab 30 4 [.nils, .nils] [] = some (.bool true, [], []) := by kernel_rfl
theorem ev_nd : evF tab 30 4 [.nils, .slice 0 0 0 1] [⟨true, .unk⟩] = some (.bool true, [⟨true, .unk⟩], []) := by kernel_rfl
theorem ev_dn : evF tab 30 4 [.slice 0 0 0 1, .nils] [⟨true, .unk⟩] = some (.bool true, [⟨true, .unk⟩], []) := by kernel_rfl
theorem ev_dd : evF tab 30 4 [.slice 0 0 0 1, .slice 1 0 0 1] [⟨true, .unk⟩, ⟨true, .unk⟩] = some (.bool true, [⟨true, .unk⟩, ⟨true, .unk⟩], []) := by kernel_rfl
end Go.Proofs.Ytjekhbenohnpnaa
