/-
  Blocks joined and parted; the samples of blocks; lists that are the same. Conditions: none.
-/
import Derived.Test.YtmmfgbifbbiihaaLapB
namespace Go.Proofs.Ytmmfgbifbbiihaa
open Go Go.Sx S
set_option maxRecDepth 100000
set_option linter.unusedVariables false
attribute [local simp] asI_i asB_b asL_l asN_n asS_s asE_nil altK_none altK_0 altK_1 altK_2 altK_3 optK_some optK_none Bool.cond_decide Bool.cond_not Int.toNat_natCast
set_option linter.unusedSimpArgs false
def TT : List Int := TS ++ TS
theorem TT_len : TT.length = 32 := rfl
theorem TT_32 : List.take 32 TT = TT := rfl
theorem TT_lo : List.take 16 TT = TS := rfl
theorem TT_hi : List.take 16 (List.drop 16 TT) = TS := rfl
theorem put8 {N o : Nat} (G H : Nat → Int) (h : o + 8 ≤ N) : List.take o (tbl N H) ++ (tbl 8 G ++ List.drop (o + 8) (tbl N H)) = tbl N (fun j => if o ≤ j ∧ j < o + 8 then G (j - o) else H j) := by
  rw [tbl_take, tbl_drop, tbl_append, tbl_append]
  refine tbl_congr (by omega) fun j hj => ?_
  by_cases h1 : j < min o N
  · rw [if_pos h1, if_neg (by omega)]
  · rw [if_neg h1]
    by_cases h2 : j - min o N < 8
    · rw [if_pos h2, if_pos (by omega), show min o N = o by omega]
    · rw [if_neg h2, if_neg (by omega)]
      congr 1
      omega
theorem mt_at {h : Nat → Int → Int → Int × Int} {f : Nat → Int} {i : Nat} {j : Nat} (hs : stepOf j = i) : meetTo h f i 0 j = f j := by
  unfold meetTo
  rw [hs, if_neg (by omega)]
theorem mv_p {h : Nat → Int → Int → Int × Int} {f : Nat → Int} {i k : Nat} (hi : 1 ≤ i) (hk : k < 8) : meetTo h f (i + 1) 0 (16 * (i - 1) + (15 - k)) = (h k (f (16 * (i - 1) + (15 - k))) (f (16 * i + k))).1 := by
  obtain ⟨h1, h2, h3⟩ := at_p hi hk
  unfold meetTo meetVal
  rw [h1, h2, if_pos (by omega), if_neg h3]
theorem mv_q {h : Nat → Int → Int → Int × Int} {f : Nat → Int} {i k : Nat} (hi : 1 ≤ i) (hk : k < 8) : meetTo h f (i + 1) 0 (16 * i + k) = (h k (f (16 * (i - 1) + (15 - k))) (f (16 * i + k))).2 := by
  obtain ⟨h1, h2, h3⟩ := at_q (i := i) hk
  unfold meetTo meetVal
  rw [h1, h2, if_pos (by omega), if_pos h3]
theorem mv_o {h : Nat → Int → Int → Int × Int} {f : Nat → Int} {i j : Nat} (hs : stepOf j ≠ i) : meetTo h f (i + 1) 0 j = meetTo h f i 0 j := by
  unfold meetTo
  by_cases hc : 1 ≤ stepOf j ∧ (stepOf j < i ∨ stepOf j = i ∧ kOf j < 0)
  · rw [if_pos hc, if_pos (by omega)]
  · rw [if_neg hc, if_neg (by omega)]
/-- What two blocks come to where they meet, place by place. -/
theorem meet_tbl (h : Nat → Int → Int → Int × Int) (f : Nat → Int) (N k : Nat) (hN : 16 * (k + 2) ≤ N) : tbl N (fun j => if 8 + k * 16 ≤ j ∧ j < 8 + k * 16 + 8 then (fun c => (h (7 - c) (meetTo h f (k + 1) 0 (16 * k + (15 - (7 - c)))) (meetTo h f (k + 1) 0 ((k + 1) * 16 + (7 - c)))).1) (j - (8 + k * 16)) else if (k + 1) * 16 ≤ j ∧ j < (k + 1) * 16 + 8 then (h (j - (k + 1) * 16) (meetTo h f (k + 1) 0 (16 * k + (15 - (j - (k + 1) * 16)))) (meetTo h f (k + 1) 0 j)).2 else meetTo h f (k + 1) 0 j) = tbl N (meetTo h f (k + 1 + 1) 0) := by
  refine tbl_congr rfl fun j hj => ?_
  have fp : ∀ c, c < 8 → meetTo h f (k + 1) 0 (16 * k + (15 - c)) = f (16 * (k + 1 - 1) + (15 - c)) := fun c hc => mt_at (at_p (i := k + 1) (by omega) hc).1
  have fq : ∀ c, c < 8 → meetTo h f (k + 1) 0 ((k + 1) * 16 + c) = f (16 * (k + 1) + c) := fun c hc => by
    rw [show (k + 1) * 16 + c = 16 * (k + 1) + c by omega]
    exact mt_at (at_q (i := k + 1) hc).1
  by_cases h1 : 8 + k * 16 ≤ j ∧ j < 8 + k * 16 + 8
  · rw [if_pos h1]
    obtain ⟨c, hc, rfl⟩ : ∃ c, c < 8 ∧ j = 16 * (k + 1 - 1) + (15 - c) := ⟨15 - (j - 16 * k), by omega, by omega⟩
    rw [mv_p (by omega) hc]
    simp only
    rw [show 7 - (16 * (k + 1 - 1) + (15 - c) - (8 + k * 16)) = c by omega, fp c hc, fq c hc]
  · rw [if_neg h1]
    by_cases h2 : (k + 1) * 16 ≤ j ∧ j < (k + 1) * 16 + 8
    · rw [if_pos h2]
      obtain ⟨c, hc, rfl⟩ : ∃ c, c < 8 ∧ j = 16 * (k + 1) + c := ⟨j - 16 * (k + 1), by omega, by omega⟩
      rw [mv_q (by omega) hc, show 16 * (k + 1) + c - (k + 1) * 16 = c by omega, fp c hc, ← fq c hc, show (k + 1) * 16 + c = 16 * (k + 1) + c by omega]
    · rw [if_neg h2]
      refine (mv_o fun hs => ?_).symm
      have hk := kOf_lt j
      rcases at_only (i := k + 1) (by omega) hs rfl with e | e <;> omega
theorem meet_turn (f : Nat → Int) (N k : Nat) (hN : 16 * (k + 2) ≤ N) (hm : N ≤ 900) : g42 (0, [.l TT, .n (k * 16), .n ((k + 1) * 16), .l TS, .l (tbl N (meetTo (hV turnV) f (k + 1) 0))]) = some (0, [.l (tbl N (meetTo (hV turnV) f (k + 1 + 1) 0))]) := by
  have e0 : (tbl N (meetTo (hV turnV) f (k + 1) 0)).length = N := tbl_len _ _
  have e1 := flip_ok (8 + k * 16) (tbl N (meetTo (hV turnV) f (k + 1) 0)) (by omega) (by omega)
  rw [show tbl 8 (fun j => (tbl N (meetTo (hV turnV) f (k + 1) 0)).getD (8 + k * 16 + (7 - j)) 0) = tbl 8 (fun j => meetTo (hV turnV) f (k + 1) 0 (16 * k + (15 - j))) from tbl_congr rfl fun j hj => by rw [tbl_getD (by omega)]; congr 1; omega] at e1
  have e2 := pairs_turn ((k + 1) * 16) N (fun j => meetTo (hV turnV) f (k + 1) 0 (16 * k + (15 - j))) (meetTo (hV turnV) f (k + 1) 0) (by omega) (by omega)
  have e3 := flip_ok 0 (tbl 8 (fun j => (hV turnV j ((fun j => meetTo (hV turnV) f (k + 1) 0 (16 * k + (15 - j))) j) (meetTo (hV turnV) f (k + 1) 0 ((k + 1) * 16 + j))).1)) (by rw [tbl_len]; omega) (by omega)
  rw [show tbl 8 (fun j => (tbl 8 (fun j => (hV turnV j ((fun j => meetTo (hV turnV) f (k + 1) 0 (16 * k + (15 - j))) j) (meetTo (hV turnV) f (k + 1) 0 ((k + 1) * 16 + j))).1)).getD (0 + (7 - j)) 0) = tbl 8 (fun c => (hV turnV (7 - c) (meetTo (hV turnV) f (k + 1) 0 (16 * k + (15 - (7 - c)))) (meetTo (hV turnV) f (k + 1) 0 ((k + 1) * 16 + (7 - c)))).1) from tbl_congr rfl fun j hj => by rw [tbl_getD (by omega), Nat.zero_add]] at e3
  have e4 := put8 (N := N) (o := 8 + k * 16) (fun c => (hV turnV (7 - c) (meetTo (hV turnV) f (k + 1) 0 (16 * k + (15 - (7 - c)))) (meetTo (hV turnV) f (k + 1) 0 ((k + 1) * 16 + (7 - c)))).1) (fun j => if (k + 1) * 16 ≤ j ∧ j < (k + 1) * 16 + 8 then (hV turnV (j - (k + 1) * 16) ((fun j => meetTo (hV turnV) f (k + 1) 0 (16 * k + (15 - j))) (j - (k + 1) * 16)) (meetTo (hV turnV) f (k + 1) 0 j)).2 else meetTo (hV turnV) f (k + 1) 0 j) (by omega)
  rw [meet_tbl (hV turnV) f N k hN] at e4
  have e5 : (tbl N (fun j => if (k + 1) * 16 ≤ j ∧ j < (k + 1) * 16 + 8 then (hV turnV (j - (k + 1) * 16) ((fun j => meetTo (hV turnV) f (k + 1) 0 (16 * k + (15 - j))) (j - (k + 1) * 16)) (meetTo (hV turnV) f (k + 1) 0 j)).2 else meetTo (hV turnV) f (k + 1) 0 j)).length = N := tbl_len _ _
  have e6 : (tbl 8 (fun c => (hV turnV (7 - c) (meetTo (hV turnV) f (k + 1) 0 (16 * k + (15 - (7 - c)))) (meetTo (hV turnV) f (k + 1) 0 ((k + 1) * 16 + (7 - c)))).1)).length = 8 := tbl_len _ _
  generalize tbl N (meetTo (hV turnV) f (k + 1) 0) = X at *
  generalize tbl N (meetTo (hV turnV) f (k + 1 + 1) 0) = X' at *
  generalize tbl 8 (fun c => (hV turnV (7 - c) (meetTo (hV turnV) f (k + 1) 0 (16 * k + (15 - (7 - c)))) (meetTo (hV turnV) f (k + 1) 0 ((k + 1) * 16 + (7 - c)))).1) = Y3 at *
  generalize tbl 8 (fun j => (hV turnV j ((fun j => meetTo (hV turnV) f (k + 1) 0 (16 * k + (15 - j))) j) (meetTo (hV turnV) f (k + 1) 0 ((k + 1) * 16 + j))).1) = Y2 at *
  generalize tbl 8 (fun j => meetTo (hV turnV) f (k + 1) 0 (16 * k + (15 - j))) = Y1 at *
  generalize tbl N _ = Z at *
  have e7 : List.take 8 Y3 = Y3 := List.take_of_length_le (by omega)
  simp -implicitDefEqProofs only [g42, g42_0, asI_i, asN_n, asL_l, asB_b, asE_nil, Bool.cond_decide, e0, if_pos (show k * 16 + 16 ≤ N by omega), if_pos (show (k + 1) * 16 + 16 ≤ N by omega), e1, altK_0, Nat.zero_add, e2, e5, e3, Nat.min_self, Nat.le_refl, if_true, Nat.mul_one, show (8 * 1 : Nat) = 8 from rfl, e6, e7, if_pos (show 8 + k * 16 + 8 ≤ N by omega), e4]
theorem all_turn (n : Nat) (f : Nat → Int) (h1 : 1 ≤ n) (hn : n ≤ 20) : g33 (0, [.l TT, .n n, .l (tbl (16 * n) f)]) = some (1, [.n n, .l (tbl (16 * n) f), .l (tbl (16 * n) (joinF (hV turnV) n f))]) := by
  have hl : ∀ h : List Int, L33_0 (1, [.n n, .i 1, .l h, .l TT, .l (tbl (16 * n) f)]) = some (1, [.n n, .l h, .l TT, .l (tbl (16 * n) (joinF (hV turnV) n f))]) := by
    intro h
    rw [show tbl (16 * n) f = tbl (16 * n) (meetTo (hV turnV) f 1 0) from tbl_congr rfl fun j _ => (meetTo_one j).symm, show tbl (16 * n) (joinF (hV turnV) n f) = tbl (16 * n) (meetTo (hV turnV) f n 0) from tbl_congr rfl fun j _ => (meetTo_all n j).symm]
    refine loopL_run (m := 2) (f := f33_0) (fun k => (1, [.n n, .i ((k + 1 : Nat) : Int), .l h, .l TT, .l (tbl (16 * n) (meetTo (hV turnV) f (k + 1) 0))])) (n - 1) (fun k hk => ⟨?_, by show 1 < 2; omega⟩) ?_ (by omega)
    · have hin := meet_turn f (16 * n) k (by omega) (by omega)
      have w1 : IntKind.i64.wrap (((k + 1 : Nat) : Int) - 1) = (k : Int) := by rw [wrap64 (by omega) (by omega)]; omega
      have w2 : IntKind.i64.wrap (((k + 1 : Nat) : Int) + 1) = ((k + 1 + 1 : Nat) : Int) := wrap_nat (n := k + 1 + 1) (by omega)
      generalize tbl (16 * n) (meetTo (hV turnV) f (k + 1) 0) = x at *
      generalize tbl (16 * n) (meetTo (hV turnV) f (k + 1 + 1) 0) = z at *
      simp -implicitDefEqProofs only [f33_0, f33_0_1, asI_i, asN_n, asL_l, asB_b, asE_nil, Bool.cond_decide, if_pos (show ((k + 1 : Nat) : Int) < n by omega), TT_len, Nat.le_refl, if_true, if_pos (show 16 ≤ 32 by omega), w1, if_pos (show (0 : Int) ≤ (k : Int) ∧ (k : Int) < n by omega), if_pos (show (0 : Int) ≤ ((k + 1 : Nat) : Int) ∧ ((k + 1 : Nat) : Int) < n by omega), Int.toNat_natCast, TT_32, TT_lo, hin, altK_0, w2]
    · rw [show n - 1 + 1 = n by omega]
      generalize tbl (16 * n) _ = z
      generalize TT = t
      simp -implicitDefEqProofs only [f33_0, f33_0_1, asI_i, asN_n, asL_l, asB_b, asE_nil, Bool.cond_decide, if_neg (Int.lt_irrefl _)]
  have e1 : List.take (n * 16) (tbl (16 * n) f) = tbl (16 * n) f := List.take_of_length_le (by rw [tbl_len]; omega)
  have e2 : (tbl (16 * n) f).length = 16 * n := tbl_len _ _
  have hl2 := hl (tbl (16 * n) f)
  generalize tbl (16 * n) f = x at *
  generalize TT = t at *
  simp -implicitDefEqProofs only [g33, g33_0, asI_i, asN_n, asL_l, asB_b, asE_nil, Bool.cond_decide, Nat.zero_add, if_neg (show ¬ n = 0 by omega), if_pos (show n * 128 ≤ 70368744177664 by omega), if_pos (show n * 16 ≤ x.length by omega), e1, hl2, altK_1]
theorem meet_back (f : Nat → Int) (N k : Nat) (hN : 16 * (k + 2) ≤ N) (hm : N ≤ 900) : g42 (1, [.l TT, .n (k * 16), .n ((k + 1) * 16), .l TS, .l (tbl N (meetTo (hV backV) f (k + 1) 0))]) = some (0, [.l (tbl N (meetTo (hV backV) f (k + 1 + 1) 0))]) := by
  have e0 : (tbl N (meetTo (hV backV) f (k + 1) 0)).length = N := tbl_len _ _
  have e1 := flip_ok (8 + k * 16) (tbl N (meetTo (hV backV) f (k + 1) 0)) (by omega) (by omega)
  rw [show tbl 8 (fun j => (tbl N (meetTo (hV backV) f (k + 1) 0)).getD (8 + k * 16 + (7 - j)) 0) = tbl 8 (fun j => meetTo (hV backV) f (k + 1) 0 (16 * k + (15 - j))) from tbl_congr rfl fun j hj => by rw [tbl_getD (by omega)]; congr 1; omega] at e1
  have e2 := pairs_back ((k + 1) * 16) N (fun j => meetTo (hV backV) f (k + 1) 0 (16 * k + (15 - j))) (meetTo (hV backV) f (k + 1) 0) (by omega) (by omega)
  have e3 := flip_ok 0 (tbl 8 (fun j => (hV backV j ((fun j => meetTo (hV backV) f (k + 1) 0 (16 * k + (15 - j))) j) (meetTo (hV backV) f (k + 1) 0 ((k + 1) * 16 + j))).1)) (by rw [tbl_len]; omega) (by omega)
  rw [show tbl 8 (fun j => (tbl 8 (fun j => (hV backV j ((fun j => meetTo (hV backV) f (k + 1) 0 (16 * k + (15 - j))) j) (meetTo (hV backV) f (k + 1) 0 ((k + 1) * 16 + j))).1)).getD (0 + (7 - j)) 0) = tbl 8 (fun c => (hV backV (7 - c) (meetTo (hV backV) f (k + 1) 0 (16 * k + (15 - (7 - c)))) (meetTo (hV backV) f (k + 1) 0 ((k + 1) * 16 + (7 - c)))).1) from tbl_congr rfl fun j hj => by rw [tbl_getD (by omega), Nat.zero_add]] at e3
  have e4 := put8 (N := N) (o := 8 + k * 16) (fun c => (hV backV (7 - c) (meetTo (hV backV) f (k + 1) 0 (16 * k + (15 - (7 - c)))) (meetTo (hV backV) f (k + 1) 0 ((k + 1) * 16 + (7 - c)))).1) (fun j => if (k + 1) * 16 ≤ j ∧ j < (k + 1) * 16 + 8 then (hV backV (j - (k + 1) * 16) ((fun j => meetTo (hV backV) f (k + 1) 0 (16 * k + (15 - j))) (j - (k + 1) * 16)) (meetTo (hV backV) f (k + 1) 0 j)).2 else meetTo (hV backV) f (k + 1) 0 j) (by omega)
  rw [meet_tbl (hV backV) f N k hN] at e4
  have e5 : (tbl N (fun j => if (k + 1) * 16 ≤ j ∧ j < (k + 1) * 16 + 8 then (hV backV (j - (k + 1) * 16) ((fun j => meetTo (hV backV) f (k + 1) 0 (16 * k + (15 - j))) (j - (k + 1) * 16)) (meetTo (hV backV) f (k + 1) 0 j)).2 else meetTo (hV backV) f (k + 1) 0 j)).length = N := tbl_len _ _
  have e6 : (tbl 8 (fun c => (hV backV (7 - c) (meetTo (hV backV) f (k + 1) 0 (16 * k + (15 - (7 - c)))) (meetTo (hV backV) f (k + 1) 0 ((k + 1) * 16 + (7 - c)))).1)).length = 8 := tbl_len _ _
  generalize tbl N (meetTo (hV backV) f (k + 1) 0) = X at *
  generalize tbl N (meetTo (hV backV) f (k + 1 + 1) 0) = X' at *
  generalize tbl 8 (fun c => (hV backV (7 - c) (meetTo (hV backV) f (k + 1) 0 (16 * k + (15 - (7 - c)))) (meetTo (hV backV) f (k + 1) 0 ((k + 1) * 16 + (7 - c)))).1) = Y3 at *
  generalize tbl 8 (fun j => (hV backV j ((fun j => meetTo (hV backV) f (k + 1) 0 (16 * k + (15 - j))) j) (meetTo (hV backV) f (k + 1) 0 ((k + 1) * 16 + j))).1) = Y2 at *
  generalize tbl 8 (fun j => meetTo (hV backV) f (k + 1) 0 (16 * k + (15 - j))) = Y1 at *
  generalize tbl N _ = Z at *
  have e7 : List.take 8 Y3 = Y3 := List.take_of_length_le (by omega)
  simp -implicitDefEqProofs only [g42, g42_1, asI_i, asN_n, asL_l, asB_b, asE_nil, Bool.cond_decide, e0, if_pos (show k * 16 + 16 ≤ N by omega), if_pos (show (k + 1) * 16 + 16 ≤ N by omega), e1, altK_0, Nat.zero_add, e2, e5, e3, Nat.min_self, Nat.le_refl, if_true, Nat.mul_one, show (8 * 1 : Nat) = 8 from rfl, e6, e7, if_pos (show 8 + k * 16 + 8 ≤ N by omega), e4]
theorem all_back (n : Nat) (f : Nat → Int) (h1 : 1 ≤ n) (hn : n ≤ 20) : g34 (0, [.l TT, .n n, .l (tbl (16 * n) f)]) = some (1, [.n n, .l (tbl (16 * n) f), .l (tbl (16 * n) (joinF (hV backV) n f))]) := by
  have hl : ∀ h : List Int, L34_0 (1, [.n n, .i 1, .l h, .l TT, .l (tbl (16 * n) f)]) = some (1, [.n n, .l h, .l TT, .l (tbl (16 * n) (joinF (hV backV) n f))]) := by
    intro h
    rw [show tbl (16 * n) f = tbl (16 * n) (meetTo (hV backV) f 1 0) from tbl_congr rfl fun j _ => (meetTo_one j).symm, show tbl (16 * n) (joinF (hV backV) n f) = tbl (16 * n) (meetTo (hV backV) f n 0) from tbl_congr rfl fun j _ => (meetTo_all n j).symm]
    refine loopL_run (m := 2) (f := f34_0) (fun k => (1, [.n n, .i ((k + 1 : Nat) : Int), .l h, .l TT, .l (tbl (16 * n) (meetTo (hV backV) f (k + 1) 0))])) (n - 1) (fun k hk => ⟨?_, by show 1 < 2; omega⟩) ?_ (by omega)
    · have hin := meet_back f (16 * n) k (by omega) (by omega)
      have w1 : IntKind.i64.wrap (((k + 1 : Nat) : Int) - 1) = (k : Int) := by rw [wrap64 (by omega) (by omega)]; omega
      have w2 : IntKind.i64.wrap (((k + 1 : Nat) : Int) + 1) = ((k + 1 + 1 : Nat) : Int) := wrap_nat (n := k + 1 + 1) (by omega)
      generalize tbl (16 * n) (meetTo (hV backV) f (k + 1) 0) = x at *
      generalize tbl (16 * n) (meetTo (hV backV) f (k + 1 + 1) 0) = z at *
      simp -implicitDefEqProofs only [f34_0, f34_0_1, asI_i, asN_n, asL_l, asB_b, asE_nil, Bool.cond_decide, if_pos (show ((k + 1 : Nat) : Int) < n by omega), TT_len, Nat.le_refl, if_true, if_pos (show 16 ≤ 32 by omega), w1, if_pos (show (0 : Int) ≤ (k : Int) ∧ (k : Int) < n by omega), if_pos (show (0 : Int) ≤ ((k + 1 : Nat) : Int) ∧ ((k + 1 : Nat) : Int) < n by omega), Int.toNat_natCast, TT_32, TT_lo, hin, altK_0, w2]
    · rw [show n - 1 + 1 = n by omega]
      generalize tbl (16 * n) _ = z
      generalize TT = t
      simp -implicitDefEqProofs only [f34_0, f34_0_1, asI_i, asN_n, asL_l, asB_b, asE_nil, Bool.cond_decide, if_neg (Int.lt_irrefl _)]
  have e1 : List.take (n * 16) (tbl (16 * n) f) = tbl (16 * n) f := List.take_of_length_le (by rw [tbl_len]; omega)
  have e2 : (tbl (16 * n) f).length = 16 * n := tbl_len _ _
  have hl2 := hl (tbl (16 * n) f)
  generalize tbl (16 * n) f = x at *
  generalize TT = t at *
  simp -implicitDefEqProofs only [g34, g34_0, asI_i, asN_n, asL_l, asB_b, asE_nil, Bool.cond_decide, Nat.zero_add, if_neg (show ¬ n = 0 by omega), if_pos (show n * 128 ≤ 70368744177664 by omega), if_pos (show n * 16 ≤ x.length by omega), e1, hl2, altK_1]
/-! ### Samples, and what is the same -/
theorem samp_ok (B N : Nat) (P : List Int) (h1 : 1 ≤ B) (hm : B ≤ 13) (hP : P.length = 16 * B) (hN : N ≤ 16 * B) : g12 (0, [.n B, .i (N : Int), .l P]) = some (1, [.n N, .l P, .l P]) := by
  have hl : L12_0 (0, [.i (N : Int), .n B, .i (B : Int), .i 0, .l P]) = some (2, [.i (N : Int), .n (B * 16), .l P, .l (List.take (B * 16) P)]) := by
    have main := loopL_run (m := 3) (f := f12_0) (fun k => if k = 0 then (0, [.i (N : Int), .n B, .i (B : Int), .i 0, .l P]) else (2, [.i (N : Int), .n (k * 16), .n B, .i (B : Int), .i (k : Int), .l P, .l (List.take (k * 16) P)])) B (j := 2) (r := [.i (N : Int), .n (B * 16), .l P, .l (List.take (B * 16) P)]) (fun k hk => ?_) ?_ (by omega)
    · show loopL 3 f12_0 (0, [.i (N : Int), .n B, .i (B : Int), .i 0, .l P]) = _
      simpa using main
    · simp only [Nat.succ_ne_zero, if_false]
      refine ⟨?_, by show 2 < 3; omega⟩
      have hc : (List.take 16 (List.drop (k * 16) P)).length = 16 := by rw [List.length_take, List.length_drop]; omega
      have hc2 := take16 hc
      have ht : List.take ((k + 1) * 16) P = List.take (k * 16) P ++ List.take 16 (List.drop (k * 16) P) := by rw [show (k + 1) * 16 = k * 16 + 16 by omega, List.take_add]
      by_cases hk0 : k = 0
      · subst hk0
        have t0 : Int.toNat 0 = 0 := rfl
        have w2 : IntKind.i64.wrap ((0 : Int) + 1) = ((0 + 1 : Nat) : Int) := by rfl
        rw [show List.take (0 * 16) P = [] by simp, List.nil_append] at ht
        rw [ht]
        generalize hxx : List.take 16 (List.drop (0 * 16) P) = x at *
        simp -implicitDefEqProofs only [f12_0, f12_0_0, asI_i, asN_n, asL_l, asB_b, asE_nil, Bool.cond_decide, if_true, hxx, if_pos (show (0 : Int) < B by omega), if_pos (show (0 : Int) ≤ 0 ∧ (0 : Int) < B by omega), t0, if_pos (show 0 * 16 + 16 ≤ P.length by omega), hc, Nat.zero_add, Nat.le_refl, show List.drop 16 ([0, 0, 0, 0, 0, 0, 0, 0, 0, 0, 0, 0, 0, 0, 0, 0] : List Int) = [] from rfl, List.append_nil, hc2, w2, Nat.one_mul, Nat.succ_eq_add_one]
      · have w2 : IntKind.i64.wrap ((k : Int) + 1) = ((k + 1 : Nat) : Int) := wrap_nat (n := k + 1) (by omega)
        have hl5 : (List.take (k * 16) P).length = k * 16 := by rw [List.length_take]; omega
        rw [if_neg hk0, ht, show (k + 1) * 16 = k * 16 + 16 by omega]
        generalize hxx : List.take 16 (List.drop (k * 16) P) = x at *
        generalize List.take (k * 16) P = y at *
        simp -implicitDefEqProofs only [f12_0, f12_0_2, asI_i, asN_n, asL_l, asB_b, asE_nil, Bool.cond_decide, if_true, hxx, if_pos (show (k : Int) < B by omega), if_pos (show (0 : Int) ≤ k ∧ (k : Int) < B by omega), Int.toNat_natCast, if_pos (show k * 16 + 16 ≤ P.length by omega), hc, Nat.zero_add, Nat.le_refl, show List.drop 16 ([0, 0, 0, 0, 0, 0, 0, 0, 0, 0, 0, 0, 0, 0, 0, 0] : List Int) = [] from rfl, List.append_nil, hc2, Nat.mul_one, hl5, if_pos (show (k * 16 + 16) * 8 ≤ 70368744177664 by omega), w2]
    · rw [if_neg (show ¬ B = 0 by omega)]
      generalize List.take (B * 16) P = z
      simp -implicitDefEqProofs only [f12_0, f12_0_2, asI_i, asN_n, asL_l, asB_b, asE_nil, Bool.cond_decide, if_neg (Int.lt_irrefl _)]
  rw [show List.take (B * 16) P = P from List.take_of_length_le (by omega)] at hl
  have hN2 : ¬ ((B * 16 : Nat) : Int) < (N : Int) := by omega
  have hN3 : ¬ (0 : Int) > (N : Int) := by omega
  simp -implicitDefEqProofs only [g12, g12_0, asI_i, asN_n, asL_l, asB_b, asE_nil, Bool.cond_decide, hl, altK_2, if_neg hN2, if_neg hN3, if_pos (show (0 : Int) ≤ (N : Int) ∧ (N : Int) ≤ ((B * 16 : Nat) : Int) by omega), Int.toNat_natCast, Nat.sub_zero]
theorem same_ok (N : Nat) (A B : List Int) (hA : N ≤ A.length) (hB : N ≤ B.length) (hm : N ≤ 10000) (h : ∀ k, k < N → A.getD k 0 = B.getD k 0) : g26 (0, [.n N, .n N, .l A, .l B]) = some (0, [.b true, .l A, .l B]) := by
  have hl : L26_0 (0, [.n N, .n N, .i 0, .l A, .l B]) = some (0, [.l A, .l B]) := by
    refine loopL_run (m := 4) (f := f26_0) (fun k => (0, [.n N, .n N, .i (k : Int), .l A, .l B])) N (fun k hk => ⟨?_, by show 0 < 4; omega⟩) ?_ (by omega)
    · have hx := get_some (l := A) (i := k) (by omega)
      have hy := get_some (l := B) (i := k) (by omega)
      rw [h k hk] at hx
      have w2 : IntKind.i64.wrap ((k : Int) + 1) = ((k + 1 : Nat) : Int) := wrap_nat (n := k + 1) (by omega)
      generalize B.getD k 0 = v at *
      simp -implicitDefEqProofs only [f26_0, f26_0_0, asI_i, asN_n, asL_l, asB_b, asE_nil, Bool.cond_decide, if_pos (show (k : Int) < N by omega), if_pos (show (0 : Int) ≤ (k : Int) ∧ (k : Int) < N by omega), Int.toNat_natCast, hx, hy, optK_some, ne_eq, not_true_eq_false, if_false, w2]
    · simp -implicitDefEqProofs only [f26_0, f26_0_0, asI_i, asN_n, asL_l, asB_b, asE_nil, Bool.cond_decide, if_neg (Int.lt_irrefl _)]
  simp -implicitDefEqProofs only [g26, g26_0, asI_i, asN_n, asL_l, asB_b, asE_nil, Bool.cond_decide, ne_eq, not_true_eq_false, if_false, hl, altK_0]
theorem sameB_ok (N : Nat) (A : List Int) (hA : N * 16 ≤ A.length) (hm : N ≤ 10000) : g18 (0, [.n N, .n N, .l A, .l A]) = some (0, [.b true, .l A, .l A]) := by
  have hl : L18_0 (0, [.n N, .n N, .i 0, .l A, .l A]) = some (0, [.l A, .l A]) := by
    refine loopL_run (m := 2) (f := f18_0) (fun k => (0, [.n N, .n N, .i (k : Int), .l A, .l A])) N (fun k hk => ⟨?_, by show 0 < 2; omega⟩) ?_ (by omega)
    · have hc : (List.take 16 (List.drop (k * 16) A)).length = 16 := by rw [List.length_take, List.length_drop]; omega
      have w2 : IntKind.i64.wrap ((k : Int) + 1) = ((k + 1 : Nat) : Int) := wrap_nat (n := k + 1) (by omega)
      generalize hxx : List.take 16 (List.drop (k * 16) A) = v at *
      simp -implicitDefEqProofs only [f18_0, f18_0_0, asI_i, asN_n, asL_l, asB_b, asE_nil, Bool.cond_decide, hxx, if_pos (show (k : Int) < N by omega), if_pos (show (0 : Int) ≤ (k : Int) ∧ (k : Int) < N by omega), Int.toNat_natCast, if_pos (show k * 16 + 16 ≤ A.length by omega), hc, if_true, decide_true, Bool.not_true, cond_false, w2]
      first | done | rfl
    · simp -implicitDefEqProofs only [f18_0, f18_0_0, asI_i, asN_n, asL_l, asB_b, asE_nil, Bool.cond_decide, if_neg (Int.lt_irrefl _)]
  simp -implicitDefEqProofs only [g18, g18_0, asI_i, asN_n, asL_l, asB_b, asE_nil, Bool.cond_decide, ne_eq, not_true_eq_false, if_false, hl, altK_0]
end Go.Proofs.Ytmmfgbifbbiihaa
