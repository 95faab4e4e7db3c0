/-
  The law of the sums of any rows of samples. Conditions: none.
-/
import Derived.Test.YtlbfafbhflblcaaMixes
namespace Go.Proofs.Ytlbfafbhflblcaa
open Go Go.Sx M
set_option maxRecDepth 100000
set_option linter.unusedVariables false
attribute [local simp] asI_i asB_b asL_l asN_n asS_s asE_nil altK_none altK_0 altK_1 altK_2 altK_3 optK_some optK_none Bool.cond_decide Bool.cond_not Int.toNat_natCast
set_option linter.unusedSimpArgs false

theorem cols_0 (N : Nat) (Q : List NC) (M : Int) (c : Nat) (hN : N ≤ 20) (hQ : N ≤ Q.length) (he : Even Q) (hc : c ≤ 1000) : L7_1 (0, [.n N, .x Q, .i (c : Int), .i M, .i (c : Int), .n N, .x Q, .i (N : Int), .i 0]) = some (if cnt Q c N = 0 then (0, [.n N, .x Q, .i M, .i (c : Int)]) else (1, [.n N, .x Q, .n (cnt Q c N), .n (cnt Q c N), .i M, .i (c : Int), .l (col Q c 0 N), .l (col Q c 1 N)])) := by
  have main := iterL_run (m := 4) (f := f7_1) (fun k => if cnt Q c k = 0 then (0, [.n N, .x Q, .i (c : Int), .i M, .i (c : Int), .n N, .x Q, .i (N : Int), .i (k : Int)]) else (1, [.n N, .x Q, .i (c : Int), .n (cnt Q c k), .n (cnt Q c k), .i M, .i (c : Int), .n N, .x Q, .i (N : Int), .i (k : Int), .l (col Q c 0 k), .l (col Q c 1 k)])) (j := ((if cnt Q c N = 0 then (0, [.n N, .x Q, .i M, .i (c : Int)]) else (1, [.n N, .x Q, .n (cnt Q c N), .n (cnt Q c N), .i M, .i (c : Int), .l (col Q c 0 N), .l (col Q c 1 N)]) : Nat × List Leaf)).1) (r := ((if cnt Q c N = 0 then (0, [.n N, .x Q, .i M, .i (c : Int)]) else (1, [.n N, .x Q, .n (cnt Q c N), .n (cnt Q c N), .i M, .i (c : Int), .l (col Q c 0 N), .l (col Q c 1 N)]) : Nat × List Leaf)).2) N 0 loopFuel (fun k _ hk => ?_) ?_ (fuel_pos (by omega))
  · show iterL 4 f7_1 loopFuel (0, [.n N, .x Q, .i (c : Int), .i M, .i (c : Int), .n N, .x Q, .i (N : Int), .i 0]) = _
    exact main
  · have hk' : k < N := by omega
    have hl := he k (by omega)
    have hq := q_get (Q := Q) (k := k) (by omega)
    have hrw : (Q.getD k ⟨0, []⟩).l = rw_ Q k := rfl
    have hqL : (rw_ Q k).length / 2 = qL Q k := rfl
    have hi : (0 : Int) ≤ (k : Int) ∧ (k : Int) < N := by omega
    have w2 : IntKind.i64.wrap ((k : Int) + 1) = ((k + 1 : Nat) : Int) := wrap_nat (n := k + 1) (by omega)
    have hl0 := col_len Q c 0 k
    have hl1 := col_len Q c 1 k
    have hcl := cnt_le Q c k
    have e0 : col Q c 0 (k + 1) = if c < qL Q k then col Q c 0 k ++ [(rw_ Q k).getD (c * 2) 0] else col Q c 0 k := rfl
    have e1 : col Q c 1 (k + 1) = if c < qL Q k then col Q c 1 k ++ [(rw_ Q k).getD (c * 2 + 1) 0] else col Q c 1 k := rfl
    have e2 : cnt Q c (k + 1) = if c < qL Q k then cnt Q c k + 1 else cnt Q c k := rfl
    rw [e0, e1, e2]
    by_cases h : c < qL Q k
    · have hx := get_some (l := rw_ Q k) (i := c * 2) (by omega)
      have hy := get_some (l := rw_ Q k) (i := c * 2 + 1) (by omega)
      have hci : (0 : Int) ≤ (c : Int) ∧ (c : Int) < (qL Q k : Int) := by omega
      rw [if_pos h, if_pos h, if_pos h, if_neg (Nat.succ_ne_zero _)]
      generalize (rw_ Q k).getD (c * 2) 0 = x at *
      generalize (rw_ Q k).getD (c * 2 + 1) 0 = y at *
      by_cases h0 : cnt Q c k = 0
      · have n0 : col Q c 0 k = [] := List.length_eq_zero_iff.1 (by omega)
        have n1 : col Q c 1 k = [] := List.length_eq_zero_iff.1 (by omega)
        rw [if_pos h0, n0, n1, h0]
        refine ⟨?_, by show 1 < 4; omega⟩
        simp -implicitDefEqProofs only [f7_1, f7_1_0, asI_i, asN_n, asL_l, asB_b, asX_x, asE_nil, Bool.cond_decide, if_pos hi.2, if_pos hi, Int.toNat_natCast, hq, optK_some, hrw, hqL, if_pos hci.2, if_pos hci, hx, hy, w2, List.nil_append, Nat.zero_add]
      · rw [if_neg h0]
        refine ⟨?_, by show 1 < 4; omega⟩
        generalize col Q c 0 k = A at *
        generalize col Q c 1 k = B at *
        generalize cnt Q c k = n at *
        simp -implicitDefEqProofs only [f7_1, f7_1_1, asI_i, asN_n, asL_l, asB_b, asX_x, asE_nil, Bool.cond_decide, if_pos hi.2, if_pos hi, Int.toNat_natCast, hq, optK_some, hrw, hqL, if_pos hci.2, if_pos hci, hx, hy, w2, if_pos (show (n + 1) * 8 ≤ 70368744177664 by omega), if_pos (show A.length = n * 1 by omega), if_pos (show B.length = n * 1 by omega)]
    · have hci : ¬ (c : Int) < (qL Q k : Int) := by omega
      rw [if_neg h, if_neg h, if_neg h]
      by_cases h0 : cnt Q c k = 0
      · rw [if_pos h0, if_pos h0]
        refine ⟨?_, by show 0 < 4; omega⟩
        simp -implicitDefEqProofs only [f7_1, f7_1_0, asI_i, asN_n, asL_l, asB_b, asX_x, asE_nil, Bool.cond_decide, if_pos hi.2, if_pos hi, Int.toNat_natCast, hq, optK_some, hrw, hqL, if_neg hci, w2]
      · rw [if_neg h0, if_neg h0]
        refine ⟨?_, by show 1 < 4; omega⟩
        simp -implicitDefEqProofs only [f7_1, f7_1_1, asI_i, asN_n, asL_l, asB_b, asX_x, asE_nil, Bool.cond_decide, if_pos hi.2, if_pos hi, Int.toNat_natCast, hq, optK_some, hrw, hqL, if_neg hci, w2]
  · rw [Nat.zero_add]
    by_cases h0 : cnt Q c N = 0
    · simp -implicitDefEqProofs only [if_pos h0, f7_1, f7_1_0, asI_i, asN_n, asL_l, asB_b, asX_x, asE_nil, Bool.cond_decide, if_neg (Int.lt_irrefl _)]
    · simp -implicitDefEqProofs only [if_neg h0, f7_1, f7_1_1, asI_i, asN_n, asL_l, asB_b, asX_x, asE_nil, Bool.cond_decide, if_neg (Int.lt_irrefl _)]
theorem cols_2 (N : Nat) (Q : List NC) (M : Int) (c : Nat) (q : Nat) (out : List Int) (hN : N ≤ 20) (hQ : N ≤ Q.length) (he : Even Q) (hc : c ≤ 1000) : L7_1 (2, [.n N, .x Q, .n q, .i (c : Int), .i M, .i (c : Int), .n N, .x Q, .i (N : Int), .i 0, .l out]) = some (if cnt Q c N = 0 then (2, [.n N, .x Q, .n q, .i M, .i (c : Int), .l out]) else (3, [.n N, .x Q, .n q, .n (cnt Q c N), .n (cnt Q c N), .i M, .i (c : Int), .l out, .l (col Q c 0 N), .l (col Q c 1 N)])) := by
  have main := iterL_run (m := 4) (f := f7_1) (fun k => if cnt Q c k = 0 then (2, [.n N, .x Q, .n q, .i (c : Int), .i M, .i (c : Int), .n N, .x Q, .i (N : Int), .i (k : Int), .l out]) else (3, [.n N, .x Q, .n q, .i (c : Int), .n (cnt Q c k), .n (cnt Q c k), .i M, .i (c : Int), .n N, .x Q, .i (N : Int), .i (k : Int), .l out, .l (col Q c 0 k), .l (col Q c 1 k)])) (j := ((if cnt Q c N = 0 then (2, [.n N, .x Q, .n q, .i M, .i (c : Int), .l out]) else (3, [.n N, .x Q, .n q, .n (cnt Q c N), .n (cnt Q c N), .i M, .i (c : Int), .l out, .l (col Q c 0 N), .l (col Q c 1 N)]) : Nat × List Leaf)).1) (r := ((if cnt Q c N = 0 then (2, [.n N, .x Q, .n q, .i M, .i (c : Int), .l out]) else (3, [.n N, .x Q, .n q, .n (cnt Q c N), .n (cnt Q c N), .i M, .i (c : Int), .l out, .l (col Q c 0 N), .l (col Q c 1 N)]) : Nat × List Leaf)).2) N 0 loopFuel (fun k _ hk => ?_) ?_ (fuel_pos (by omega))
  · show iterL 4 f7_1 loopFuel (2, [.n N, .x Q, .n q, .i (c : Int), .i M, .i (c : Int), .n N, .x Q, .i (N : Int), .i 0, .l out]) = _
    exact main
  · have hk' : k < N := by omega
    have hl := he k (by omega)
    have hq := q_get (Q := Q) (k := k) (by omega)
    have hrw : (Q.getD k ⟨0, []⟩).l = rw_ Q k := rfl
    have hqL : (rw_ Q k).length / 2 = qL Q k := rfl
    have hi : (0 : Int) ≤ (k : Int) ∧ (k : Int) < N := by omega
    have w2 : IntKind.i64.wrap ((k : Int) + 1) = ((k + 1 : Nat) : Int) := wrap_nat (n := k + 1) (by omega)
    have hl0 := col_len Q c 0 k
    have hl1 := col_len Q c 1 k
    have hcl := cnt_le Q c k
    have e0 : col Q c 0 (k + 1) = if c < qL Q k then col Q c 0 k ++ [(rw_ Q k).getD (c * 2) 0] else col Q c 0 k := rfl
    have e1 : col Q c 1 (k + 1) = if c < qL Q k then col Q c 1 k ++ [(rw_ Q k).getD (c * 2 + 1) 0] else col Q c 1 k := rfl
    have e2 : cnt Q c (k + 1) = if c < qL Q k then cnt Q c k + 1 else cnt Q c k := rfl
    rw [e0, e1, e2]
    by_cases h : c < qL Q k
    · have hx := get_some (l := rw_ Q k) (i := c * 2) (by omega)
      have hy := get_some (l := rw_ Q k) (i := c * 2 + 1) (by omega)
      have hci : (0 : Int) ≤ (c : Int) ∧ (c : Int) < (qL Q k : Int) := by omega
      rw [if_pos h, if_pos h, if_pos h, if_neg (Nat.succ_ne_zero _)]
      generalize (rw_ Q k).getD (c * 2) 0 = x at *
      generalize (rw_ Q k).getD (c * 2 + 1) 0 = y at *
      by_cases h0 : cnt Q c k = 0
      · have n0 : col Q c 0 k = [] := List.length_eq_zero_iff.1 (by omega)
        have n1 : col Q c 1 k = [] := List.length_eq_zero_iff.1 (by omega)
        rw [if_pos h0, n0, n1, h0]
        refine ⟨?_, by show 3 < 4; omega⟩
        simp -implicitDefEqProofs only [f7_1, f7_1_2, asI_i, asN_n, asL_l, asB_b, asX_x, asE_nil, Bool.cond_decide, if_pos hi.2, if_pos hi, Int.toNat_natCast, hq, optK_some, hrw, hqL, if_pos hci.2, if_pos hci, hx, hy, w2, List.nil_append, Nat.zero_add]
      · rw [if_neg h0]
        refine ⟨?_, by show 3 < 4; omega⟩
        generalize col Q c 0 k = A at *
        generalize col Q c 1 k = B at *
        generalize cnt Q c k = n at *
        simp -implicitDefEqProofs only [f7_1, f7_1_3, asI_i, asN_n, asL_l, asB_b, asX_x, asE_nil, Bool.cond_decide, if_pos hi.2, if_pos hi, Int.toNat_natCast, hq, optK_some, hrw, hqL, if_pos hci.2, if_pos hci, hx, hy, w2, if_pos (show (n + 1) * 8 ≤ 70368744177664 by omega), if_pos (show A.length = n * 1 by omega), if_pos (show B.length = n * 1 by omega)]
    · have hci : ¬ (c : Int) < (qL Q k : Int) := by omega
      rw [if_neg h, if_neg h, if_neg h]
      by_cases h0 : cnt Q c k = 0
      · rw [if_pos h0, if_pos h0]
        refine ⟨?_, by show 2 < 4; omega⟩
        simp -implicitDefEqProofs only [f7_1, f7_1_2, asI_i, asN_n, asL_l, asB_b, asX_x, asE_nil, Bool.cond_decide, if_pos hi.2, if_pos hi, Int.toNat_natCast, hq, optK_some, hrw, hqL, if_neg hci, w2]
      · rw [if_neg h0, if_neg h0]
        refine ⟨?_, by show 3 < 4; omega⟩
        simp -implicitDefEqProofs only [f7_1, f7_1_3, asI_i, asN_n, asL_l, asB_b, asX_x, asE_nil, Bool.cond_decide, if_pos hi.2, if_pos hi, Int.toNat_natCast, hq, optK_some, hrw, hqL, if_neg hci, w2]
  · rw [Nat.zero_add]
    by_cases h0 : cnt Q c N = 0
    · simp -implicitDefEqProofs only [if_pos h0, f7_1, f7_1_2, asI_i, asN_n, asL_l, asB_b, asX_x, asE_nil, Bool.cond_decide, if_neg (Int.lt_irrefl _)]
    · simp -implicitDefEqProofs only [if_neg h0, f7_1, f7_1_3, asI_i, asN_n, asL_l, asB_b, asX_x, asE_nil, Bool.cond_decide, if_neg (Int.lt_irrefl _)]
def outL (Q : List NC) (N c : Nat) : List Int := tbl (2 * c) (fun j => satV (tot Q (j / 2) (j % 2) N))
theorem out_next (Q : List NC) (N c : Nat) : outL Q N c ++ [satV (tot Q c 0 N), satV (tot Q c 1 N)] = outL Q N (c + 1) := by
  unfold outL
  refine tbl_ext (by rw [List.length_append, tbl_len, tbl_len]; simp; omega) fun j hj => ?_
  rw [List.length_append, tbl_len] at hj
  simp only [List.length_cons, List.length_nil] at hj
  rw [tbl_getD (by omega)]
  by_cases h : j < 2 * c
  · rw [show (tbl (2 * c) (fun j => satV (tot Q (j / 2) (j % 2) N)) ++ [satV (tot Q c 0 N), satV (tot Q c 1 N)]).getD j 0 = (tbl (2 * c) (fun j => satV (tot Q (j / 2) (j % 2) N))).getD j 0 by simp [List.getElem?_append_left (show j < (tbl (2 * c) (fun j => satV (tot Q (j / 2) (j % 2) N))).length by rw [tbl_len]; exact h)], tbl_getD h]
  · have h2 : j = 2 * c ∨ j = 2 * c + 1 := by omega
    rcases h2 with rfl | rfl
    · rw [show (tbl (2 * c) (fun j => satV (tot Q (j / 2) (j % 2) N)) ++ [satV (tot Q c 0 N), satV (tot Q c 1 N)]).getD (2 * c) 0 = satV (tot Q c 0 N) by simp [List.getElem?_append_right (show (tbl (2 * c) (fun j => satV (tot Q (j / 2) (j % 2) N))).length ≤ 2 * c by rw [tbl_len]; omega), tbl_len], show 2 * c / 2 = c by omega, show 2 * c % 2 = 0 by omega]
    · rw [show (tbl (2 * c) (fun j => satV (tot Q (j / 2) (j % 2) N)) ++ [satV (tot Q c 0 N), satV (tot Q c 1 N)]).getD (2 * c + 1) 0 = satV (tot Q c 1 N) by simp [List.getElem?_append_right (show (tbl (2 * c) (fun j => satV (tot Q (j / 2) (j % 2) N))).length ≤ 2 * c + 1 by rw [tbl_len]; omega), tbl_len], show (2 * c + 1) / 2 = c by omega, show (2 * c + 1) % 2 = 1 by omega]
theorem mix_ok (N : Nat) (Q : List NC) (hN : N ≤ 20) (hQ : N ≤ Q.length) (he : Even Q) (hok : ∀ k, k < N → okR Q k) : g7 (0, [.n N, .x Q]) = some (if mxN Q N = 0 then (0, []) else (1, [.n (mxN Q N), .l (outL Q N (mxN Q N))])) := by
  have h1 := max_ok N Q hN hQ fun k hk => (hok k hk).1
  have hM := mxN_le Q 30 N fun k hk => (hok k hk).1
  generalize mxN Q N = m at *
  have hl : L7_2 (0, [.n N, .x Q, .i (m : Int), .i 0]) = some (if m = 0 then (0, []) else (1, [.n m, .l (outL Q N m)])) := by
    have main := iterL_run (m := 2) (f := f7_2) (fun c => if c = 0 then (0, [.n N, .x Q, .i (m : Int), .i 0]) else (1, [.n N, .x Q, .n c, .i (m : Int), .i (c : Int), .l (outL Q N c)])) (j := ((if m = 0 then (0, []) else (1, [.n m, .l (outL Q N m)]) : Nat × List Leaf)).1) (r := ((if m = 0 then (0, []) else (1, [.n m, .l (outL Q N m)]) : Nat × List Leaf)).2) m 0 loopFuel (fun c _ hc => ?_) ?_ (fuel_pos (by omega))
    · show iterL 2 f7_2 loopFuel (0, [.n N, .x Q, .i (m : Int), .i 0]) = _
      exact main
    · have hc' : c < m := by omega
      rw [if_neg (Nat.succ_ne_zero c)]
      refine ⟨?_, by show 1 < 2; omega⟩
      have m0 := mix_1 (col Q c 0 N) (cnt Q c N) (col_len Q c 0 N) (col_small (by omega) N hok) (Nat.le_trans (cnt_le Q c N) hN)
      have m1 := mix_1 (col Q c 1 N) (cnt Q c N) (col_len Q c 1 N) (col_small (by omega) N hok) (Nat.le_trans (cnt_le Q c N) hN)
      rw [sum_col] at m0 m1
      have w2 : IntKind.i64.wrap ((c : Int) + 1) = ((c + 1 : Nat) : Int) := wrap_nat (n := c + 1) (by omega)
      have z0 : cnt Q c N = 0 → tot Q c 0 N = 0 := fun h => by rw [← sum_col, h]; rfl
      have z1 : cnt Q c N = 0 → tot Q c 1 N = 0 := fun h => by rw [← sum_col, h]; rfl
      have hn := out_next Q N c
      have hlen : (outL Q N c).length = 2 * c := tbl_len _ _
      have m3 := mix_0
      rw [← hn]
      by_cases c0 : c = 0
      · subst c0
        have hcol := cols_0 N Q (m : Int) 0 hN hQ he (by omega)
        have zc : ((0 : Nat) : Int) = 0 := rfl
        have w2 : IntKind.i64.wrap ((0 : Int) + 1) = ((0 + 1 : Nat) : Int) := rfl
        rw [zc] at hcol
        have o0 : outL Q N 0 = [] := rfl
        rw [if_pos rfl, o0, List.nil_append]
        by_cases h0 : cnt Q 0 N = 0
        · rw [if_pos h0] at hcol
          rw [z0 h0, z1 h0]
          generalize satV 0 = s0 at *
          simp -implicitDefEqProofs only [f7_2, f7_2_0, asI_i, asN_n, asL_l, asB_b, asX_x, asE_nil, Bool.cond_decide, if_pos (show (0 : Int) < (m : Int) by omega), hcol, altK_0, altK_1, m3, w2, Nat.zero_add]
        · rw [if_neg h0] at hcol
          generalize satV (tot Q 0 0 N) = s0 at *
          generalize satV (tot Q 0 1 N) = s1 at *
          simp -implicitDefEqProofs only [f7_2, f7_2_0, asI_i, asN_n, asL_l, asB_b, asX_x, asE_nil, Bool.cond_decide, if_pos (show (0 : Int) < (m : Int) by omega), hcol, altK_0, altK_1, m0, m1, w2, Nat.zero_add]
      · have hcol := cols_2 N Q (m : Int) c c (outL Q N c) hN hQ he (by omega)
        rw [if_neg c0]
        generalize outL Q N c = O at *
        by_cases h0 : cnt Q c N = 0
        · rw [if_pos h0] at hcol
          rw [z0 h0, z1 h0]
          generalize satV 0 = s0 at *
          simp -implicitDefEqProofs only [f7_2, f7_2_1, asI_i, asN_n, asL_l, asB_b, asX_x, asE_nil, Bool.cond_decide, if_pos (show (c : Int) < (m : Int) by omega), hcol, altK_1, altK_2, m3, w2, if_pos (show (c + 1) * 16 ≤ 70368744177664 by omega), if_pos (show O.length = c * 2 by omega)]
        · rw [if_neg h0] at hcol
          generalize satV (tot Q c 0 N) = s0 at *
          generalize satV (tot Q c 1 N) = s1 at *
          simp -implicitDefEqProofs only [f7_2, f7_2_1, asI_i, asN_n, asL_l, asB_b, asX_x, asE_nil, Bool.cond_decide, if_pos (show (c : Int) < (m : Int) by omega), hcol, altK_0, altK_3, m0, m1, w2, if_pos (show (c + 1) * 16 ≤ 70368744177664 by omega), if_pos (show O.length = c * 2 by omega)]
    · rw [Nat.zero_add]
      by_cases h0 : m = 0
      · subst h0
        simp -implicitDefEqProofs only [if_true, f7_2, f7_2_0, asI_i, asN_n, asL_l, asB_b, asX_x, asE_nil, Bool.cond_decide, show ((0 : Nat) : Int) = 0 from rfl, if_neg (Int.lt_irrefl _)]
      · simp -implicitDefEqProofs only [if_neg h0, f7_2, f7_2_1, asI_i, asN_n, asL_l, asB_b, asX_x, asE_nil, Bool.cond_decide, if_neg (Int.lt_irrefl _)]
  by_cases h0 : m = 0
  · rw [if_pos h0] at hl ⊢
    simp -implicitDefEqProofs only [g7, g7_0, asI_i, asN_n, asL_l, asB_b, asX_x, asE_nil, Bool.cond_decide, h1, altK_0, hl]
  · rw [if_neg h0] at hl ⊢
    simp -implicitDefEqProofs only [g7, g7_0, asI_i, asN_n, asL_l, asB_b, asX_x, asE_nil, Bool.cond_decide, h1, altK_0, hl, altK_1]
/-! ### The law's own sums -/
theorem sums_ok (N : Nat) (Q : List NC) (M : Int) (m c : Nat) (O : List Int) (hN : N ≤ 20) (hQ : N ≤ Q.length) (he : Even Q) (hc : c ≤ 1000) (hok : ∀ k, k < N → okR Q k) : L3_2 (1, [.n N, .x Q, .i M, .n m, .i (c : Int), .i 0, .i 0, .i 0, .l O]) = some (1, [.n N, .x Q, .i M, .n m, .i (c : Int), .i (tot Q c 0 N), .i (tot Q c 1 N), .l O]) := by
  refine loopL_run (m := 2) (f := f3_2) (fun k => (1, [.n N, .x Q, .i M, .n m, .i (c : Int), .i (tot Q c 0 k), .i (tot Q c 1 k), .i (k : Int), .l O])) N (fun k hk => ⟨?_, by show 1 < 2; omega⟩) ?_ (by omega)
  · have hl := he k (by omega)
    have hq := q_get (Q := Q) (k := k) (by omega)
    have hrw : (Q.getD k ⟨0, []⟩).l = rw_ Q k := rfl
    have hqL : (rw_ Q k).length / 2 = qL Q k := rfl
    have hi : (0 : Int) ≤ (k : Int) ∧ (k : Int) < N := by omega
    have w2 : IntKind.i64.wrap ((k : Int) + 1) = ((k + 1 : Nat) : Int) := wrap_nat (n := k + 1) (by omega)
    have e0 : tot Q c 0 (k + 1) = if c < qL Q k then tot Q c 0 k + (rw_ Q k).getD (c * 2) 0 else tot Q c 0 k := rfl
    have e1 : tot Q c 1 (k + 1) = if c < qL Q k then tot Q c 1 k + (rw_ Q k).getD (c * 2 + 1) 0 else tot Q c 1 k := rfl
    have b0 := tot_in (Q := Q) (c := c) (o := 0) (by omega) k fun i hi => hok i (by omega)
    have b1 := tot_in (Q := Q) (c := c) (o := 1) (by omega) k fun i hi => hok i (by omega)
    have hk2 := (hok k hk).2
    show f3_2 (1, [.n N, .x Q, .i M, .n m, .i (c : Int), .i (tot Q c 0 k), .i (tot Q c 1 k), .i (k : Int), .l O]) = some (1, [.n N, .x Q, .i M, .n m, .i (c : Int), .i (tot Q c 0 (k + 1)), .i (tot Q c 1 (k + 1)), .i ((k + 1 : Nat) : Int), .l O])
    rw [e0, e1]
    by_cases h : c < qL Q k
    · have hx := get_some (l := rw_ Q k) (i := c * 2) (by omega)
      have hy := get_some (l := rw_ Q k) (i := c * 2 + 1) (by omega)
      have x0 := hk2 (c * 2) (by omega)
      have x1 := hk2 (c * 2 + 1) (by omega)
      have hci : (0 : Int) ≤ (c : Int) ∧ (c : Int) < (qL Q k : Int) := by omega
      have w3 : IntKind.i64.wrap (tot Q c 0 k + (rw_ Q k).getD (c * 2) 0) = tot Q c 0 k + (rw_ Q k).getD (c * 2) 0 := wrap64 (by omega) (by omega)
      have w4 : IntKind.i64.wrap (tot Q c 1 k + (rw_ Q k).getD (c * 2 + 1) 0) = tot Q c 1 k + (rw_ Q k).getD (c * 2 + 1) 0 := wrap64 (by omega) (by omega)
      rw [if_pos h, if_pos h]
      generalize (rw_ Q k).getD (c * 2) 0 = x at *
      generalize (rw_ Q k).getD (c * 2 + 1) 0 = y at *
      simp -implicitDefEqProofs only [f3_2, f3_2_1, asI_i, asN_n, asL_l, asB_b, asX_x, asE_nil, Bool.cond_decide, if_pos hi.2, if_pos hi, Int.toNat_natCast, hq, optK_some, hrw, hqL, if_pos hci.2, if_pos hci, hx, hy, w2, w3, w4]
    · rw [if_neg h, if_neg h]
      simp -implicitDefEqProofs only [f3_2, f3_2_1, asI_i, asN_n, asL_l, asB_b, asX_x, asE_nil, Bool.cond_decide, if_pos hi.2, if_pos hi, Int.toNat_natCast, hq, optK_some, hrw, hqL, if_neg (show ¬ (c : Int) < (qL Q k : Int) by omega), w2]
  · simp -implicitDefEqProofs only [f3_2, f3_2_1, asI_i, asN_n, asL_l, asB_b, asX_x, asE_nil, Bool.cond_decide, if_neg (Int.lt_irrefl _)]
theorem check_ok (N : Nat) (Q : List NC) (m : Nat) (hm : m ≤ 30) (hN : N ≤ 20) (hQ : N ≤ Q.length) (he : Even Q) (hok : ∀ k, k < N → okR Q k) : L3_3 (1, [.n N, .x Q, .i (m : Int), .n m, .i 0, .l (outL Q N m)]) = some (1, [.l (outL Q N m)]) := by
  refine loopL_run (m := 2) (f := f3_3) (fun c => (1, [.n N, .x Q, .i (m : Int), .n m, .i (c : Int), .l (outL Q N m)])) m (fun c hc => ⟨?_, by show 1 < 2; omega⟩) ?_ (by omega)
  · have hs := sums_ok N Q (m : Int) m c (outL Q N m) hN hQ he (by omega) hok
    have hlen : (outL Q N m).length = 2 * m := tbl_len _ _
    have hp := pair_at (A := outL Q N m) (k := c) (by omega)
    have p0 : (outL Q N m).getD (c * 2) 0 = satV (tot Q c 0 N) := by unfold outL; rw [tbl_getD (by omega), show c * 2 / 2 = c by omega, show c * 2 % 2 = 0 by omega]
    have p1 : (outL Q N m).getD (c * 2 + 1) 0 = satV (tot Q c 1 N) := by unfold outL; rw [tbl_getD (by omega), show (c * 2 + 1) / 2 = c by omega, show (c * 2 + 1) % 2 = 1 by omega]
    rw [p0, p1] at hp
    have h0 := hold_ok (tot Q c 0 N)
    have h1 := hold_ok (tot Q c 1 N)
    have w2 : IntKind.i64.wrap ((c : Int) + 1) = ((c + 1 : Nat) : Int) := wrap_nat (n := c + 1) (by omega)
    generalize outL Q N m = O at *
    generalize satV (tot Q c 0 N) = s0 at *
    generalize satV (tot Q c 1 N) = s1 at *
    simp -implicitDefEqProofs only [f3_3, f3_3_1, asI_i, asN_n, asL_l, asB_b, asX_x, asE_nil, Bool.cond_decide, if_pos (show (c : Int) < (m : Int) by omega), hs, altK_1, if_pos (show (0 : Int) ≤ (c : Int) ∧ (c : Int) < (m : Int) by omega), Int.toNat_natCast, if_pos (show c * 2 + 2 ≤ O.length by omega), h0, h1, altK_0, hp, len2, if_true, decide_true, Bool.not_true, cond_false, w2]
    first | done | rfl
  · simp -implicitDefEqProofs only [f3_3, f3_3_1, asI_i, asN_n, asL_l, asB_b, asX_x, asE_nil, Bool.cond_decide, if_neg (Int.lt_irrefl _)]
theorem check_0 (N : Nat) (Q : List NC) : L3_3 (0, [.n N, .x Q, .i 0, .i 0]) = some (0, []) := loopL_last (m := 2) (f := f3_3) (j := 0) (by
  simp -implicitDefEqProofs only [f3_3, f3_3_0, asI_i, asN_n, asL_l, asB_b, asX_x, asE_nil, Bool.cond_decide, if_neg (Int.lt_irrefl _)])
theorem core (n N : Nat) (Q : List NC) (hn : Q.length = n) (hNn : N = min 8 n) (he : Even Q) : g3 (0, [.n n, .x Q]) = some (0, [.b true]) := by
  have hif : ∀ {α : Type} (a b : α), (if (8 : Int) < (n : Int) then a else b) = if 8 < n then a else b := fun a b => by
    by_cases h : 8 < n
    · rw [if_pos h, if_pos (by omega)]
    · rw [if_neg h, if_neg (by omega)]
  rcases rows_ok N Q (by omega) (by omega) he with ⟨h1, hok⟩ | ⟨j, r, h1, ⟨rfl, rfl⟩ | ⟨rfl, l, rfl⟩⟩
  · have hmix := mix_ok N Q (by omega) (by omega) he hok
    have hM := mxN_le Q 30 N fun k hk => (hok k hk).1
    have hck := check_ok N Q (mxN Q N) hM (by omega) (by omega) he hok
    have hc0 := check_0 N Q
    generalize mxN Q N = m at *
    generalize outL Q N m = O at *
    by_cases h0 : m = 0
    · subst h0
      rw [if_pos rfl] at hmix
      rw [show ((0 : Nat) : Int) = 0 from rfl] at h1
      by_cases h : 8 < n
      · obtain rfl : N = 8 := by omega
        simp -implicitDefEqProofs only [g3, g3_0, asI_i, asN_n, asL_l, asB_b, asX_x, asE_nil, Bool.cond_decide, hif, if_pos h, if_pos (show (0 : Int) ≤ 8 ∧ (8 : Int) ≤ (n : Int) by omega), h1, altK_0, hmix, ne_eq, not_true_eq_false, if_false, hc0, awakeL_ok]
      · obtain rfl : N = n := by omega
        simp -implicitDefEqProofs only [g3, g3_0, asI_i, asN_n, asL_l, asB_b, asX_x, asE_nil, Bool.cond_decide, hif, if_neg h, h1, altK_0, hmix, ne_eq, not_true_eq_false, if_false, hc0, awakeL_ok]
    · rw [if_neg h0] at hmix
      by_cases h : 8 < n
      · obtain rfl : N = 8 := by omega
        simp -implicitDefEqProofs only [g3, g3_0, asI_i, asN_n, asL_l, asB_b, asX_x, asE_nil, Bool.cond_decide, hif, if_pos h, if_pos (show (0 : Int) ≤ 8 ∧ (8 : Int) ≤ (n : Int) by omega), h1, altK_0, altK_1, hmix, ne_eq, not_true_eq_false, if_false, hck, awakeL_ok]
      · obtain rfl : N = n := by omega
        simp -implicitDefEqProofs only [g3, g3_0, asI_i, asN_n, asL_l, asB_b, asX_x, asE_nil, Bool.cond_decide, hif, if_neg h, h1, altK_0, altK_1, hmix, ne_eq, not_true_eq_false, if_false, hck, awakeL_ok]
  · by_cases h : 8 < n
    · obtain rfl : N = 8 := by omega
      simp -implicitDefEqProofs only [g3, g3_0, asI_i, asN_n, asL_l, asB_b, asX_x, asE_nil, Bool.cond_decide, hif, if_pos h, if_pos (show (0 : Int) ≤ 8 ∧ (8 : Int) ≤ (n : Int) by omega), h1, altK_1]
    · obtain rfl : N = n := by omega
      simp -implicitDefEqProofs only [g3, g3_0, asI_i, asN_n, asL_l, asB_b, asX_x, asE_nil, Bool.cond_decide, hif, if_neg h, h1, altK_1]
  · by_cases h : 8 < n
    · obtain rfl : N = 8 := by omega
      simp -implicitDefEqProofs only [g3, g3_0, asI_i, asN_n, asL_l, asB_b, asX_x, asE_nil, Bool.cond_decide, hif, if_pos h, if_pos (show (0 : Int) ≤ 8 ∧ (8 : Int) ≤ (n : Int) by omega), h1, altK_2]
    · obtain rfl : N = n := by omega
      simp -implicitDefEqProofs only [g3, g3_0, asI_i, asN_n, asL_l, asB_b, asX_x, asE_nil, Bool.cond_decide, hif, if_neg h, h1, altK_2]
theorem ev_mix (Q : List NC) (n : Nat) (hn : Q.length = n * 1) (he : Even Q) : ∃ d, evF tab d 3 [.ro (.nest [.si .i64 2] Q) n 1] [] = some (.bool true, [], []) := by
  exact ⟨_, (ok3 0).ret (i := 0) (ls := [.n n, .x Q]) (j := 0) (r := [.b true]) (core n (min 8 n) Q (by omega) rfl he) rfl rfl rfl rfl⟩
end Go.Proofs.Ytlbfafbhflblcaa
