/-
  The law of the sums of any rows of samples. Conditions: none.
-/
import Derived.Test.YtlbfafbhflblcaaDecM
import Derived.Test.YtlbfafbhflblcaaLtab
import Derived.KernelRfl
namespace Go.Proofs.Ytlbfafbhflblcaa
open Go Go.Sx M
set_option maxRecDepth 100000
set_option linter.unusedVariables false
attribute [local simp] asI_i asB_b asL_l asN_n asS_s asE_nil altK_none altK_0 altK_1 altK_2 altK_3 optK_some optK_none Bool.cond_decide Bool.cond_not Int.toNat_natCast
set_option linter.unusedSimpArgs false
/-- A loop that ends before its end in one of some ways. -/
theorem loop_or {m : Nat} {f : Nat × List Leaf → Option (Nat × List Leaf)} (hm : 0 < m) (S : Nat → List Leaf) (N : Nat) (P : Nat → Prop) (Bad : Nat → List Leaf → Prop) {j : Nat} {r : List Leaf} (hN : N < 18446744073709551616)
    (hs : ∀ k, k < N → (f (0, S k) = some (0, S (k + 1)) ∧ P k) ∨ ∃ j r, f (0, S k) = some (m + j, r) ∧ Bad j r) (he : (∀ k, k < N → P k) → f (0, S N) = some (m + j, r)) :
    (loopL m f (0, S 0) = some (j, r) ∧ ∀ k, k < N → P k) ∨ ∃ j r, loopL m f (0, S 0) = some (j, r) ∧ Bad j r := by
  have key : ∀ (q k : Nat), k + q = N → (∀ i, i < k → P i ∧ f (0, S i) = some (0, S (i + 1))) → (loopL m f (0, S 0) = some (j, r) ∧ ∀ k, k < N → P k) ∨ ∃ j r, loopL m f (0, S 0) = some (j, r) ∧ Bad j r := by
    intro q
    induction q with
    | zero =>
      intro k hk h
      obtain rfl : k = N := by omega
      exact .inl ⟨loopL_run (fun k => (0, S k)) k (fun i hi => ⟨(h i hi).2, hm⟩) (he fun i hi => (h i hi).1) hN, fun i hi => (h i hi).1⟩
    | succ q ih =>
      intro k hk h
      rcases hs k (by omega) with ⟨h1, h2⟩ | ⟨j', r', h1, h2⟩
      · refine ih (k + 1) (by omega) fun i hi => ?_
        by_cases e : i = k
        · subst e; exact ⟨h2, h1⟩
        · exact h i (by omega)
      · exact .inr ⟨j', r', loopL_run (fun k => (0, S k)) k (fun i hi => ⟨(h i hi).2, hm⟩) h1 (by omega), h2⟩
  exact key N 0 (by omega) fun i hi => absurd hi (Nat.not_lt_zero i)
def satV (x : Int) : Int := if x < -32768 then -32768 else if 32767 < x then 32767 else x
theorem sat_ok (x : Int) : g31 (0, [.i x]) = some (0, [.i (satV x)]) := by
  have hc : g40 (0, [.i x, .i (-32768), .i 32767]) = some (0, [.i (satV x)]) := by
    simp -implicitDefEqProofs only [g40, g40_0, asI_i, asE_nil, Bool.cond_decide, satV]
    by_cases c : x < -32768
    · rw [if_pos c, if_pos c]
    · rw [if_neg c, if_neg c, if_neg (by omega)]
      by_cases d : 32767 < x
      · rw [if_pos d, if_pos d]
      · rw [if_neg d, if_neg d]
  simp -implicitDefEqProofs only [g31, g31_0, asI_i, asE_nil, hc, altK_0]
theorem hold_ok (x : Int) : g8 (0, [.i x]) = some (0, [.i (satV x)]) := by
  simp -implicitDefEqProofs only [g8, g8_0, asI_i, asE_nil, Bool.cond_decide, satV]
  by_cases c : x < -32768
  · rw [if_pos c, if_neg (by omega), if_pos c]
  · rw [if_neg c]
    by_cases d : 32767 < x
    · rw [if_pos d, if_pos d, if_neg c]
    · rw [if_neg d, if_neg d, if_neg c]
def sumTo (A : List Int) : Nat → Int
  | 0 => 0
  | k + 1 => sumTo A k + A.getD k 0
def Small (A : List Int) : Prop := ∀ k, k < A.length → -1048576 ≤ A.getD k 0 ∧ A.getD k 0 ≤ 1048576
theorem sumTo_in {A : List Int} (hA : Small A) : ∀ k, k ≤ A.length → -1048576 * (k : Int) ≤ sumTo A k ∧ sumTo A k ≤ 1048576 * (k : Int)
  | 0, _ => by simp [sumTo]
  | k + 1, h => by
    have h1 := sumTo_in hA k (by omega)
    have h2 := hA k (by omega)
    simp only [sumTo]
    omega
theorem add_ok (A : List Int) (n : Nat) (hn : A.length = n) (hA : Small A) (h8 : n ≤ 20) : g32 (0, [.n n, .l A]) = some (0, [.i (sumTo A n), .l A]) := by
  have hl : L32_0 (0, [.i 0, .n n, .i (n : Int), .i 0, .l A]) = some (0, [.i (sumTo A n), .l A]) := by
    refine loopL_run (m := 2) (f := f32_0) (fun k => (0, [.i (sumTo A k), .n n, .i (n : Int), .i (k : Int), .l A])) n (fun k hk => ⟨?_, by show 0 < 2; omega⟩) ?_ (by omega)
    · have hx := get_some (l := A) (i := k) (by omega)
      have b1 := sumTo_in hA k (by omega)
      have b2 := hA k (by omega)
      have w2 : IntKind.i64.wrap ((k : Int) + 1) = ((k + 1 : Nat) : Int) := wrap_nat (n := k + 1) (by omega)
      have w3 : IntKind.i64.wrap (sumTo A k + A.getD k 0) = sumTo A (k + 1) := wrap64 (by omega) (by omega)
      have e3 : sumTo A (k + 1) = sumTo A k + A.getD k 0 := rfl
      generalize A.getD k 0 = v at *
      generalize sumTo A (k + 1) = t at *
      generalize sumTo A k = s at *
      simp -implicitDefEqProofs only [f32_0, f32_0_0, asI_i, asN_n, asL_l, asE_nil, Bool.cond_decide, if_pos (show (k : Int) < n by omega), if_pos (show (0 : Int) ≤ k ∧ (k : Int) < n by omega), Int.toNat_natCast, hx, optK_some, w2, w3]
      repeat' split
      all_goals first | rfl | (exfalso; omega)
    · simp -implicitDefEqProofs only [f32_0, f32_0_0, asI_i, asN_n, asL_l, asE_nil, Bool.cond_decide, if_neg (Int.lt_irrefl _)]
  simp -implicitDefEqProofs only [g32, g32_0, asI_i, asN_n, asL_l, asE_nil, hl, altK_0]
theorem mix_1 (A : List Int) (n : Nat) (hn : A.length = n) (hA : Small A) (h8 : n ≤ 20) : g21 (0, [.n n, .l A]) = some (0, [.i (satV (sumTo A n)), .l A]) := by
  have h1 := add_ok A n hn hA h8
  have h2 := sat_ok (sumTo A n)
  simp -implicitDefEqProofs only [g21, g21_0, asI_i, asN_n, asL_l, asE_nil, h1, h2, altK_0]
theorem mix_0 : g21 (1, []) = some (1, [.i (satV 0)]) := by kernel_rfl

/-! ### Rows -/
def rw_ (Q : List NC) (k : Nat) : List Int := (Q.getD k ⟨0, []⟩).l
def qL (Q : List NC) (k : Nat) : Nat := (rw_ Q k).length / 2
theorem q_get {Q : List NC} {k : Nat} (h : k < Q.length) : Q[k]? = some (Q.getD k ⟨0, []⟩) := get_someN h
def Even (Q : List NC) : Prop := ∀ k, k < Q.length → (rw_ Q k).length = qL Q k * 2
def mxN (Q : List NC) : Nat → Nat
  | 0 => 0
  | k + 1 => if mxN Q k < qL Q k then qL Q k else mxN Q k
theorem mxN_le (Q : List NC) (b : Nat) : ∀ n, (∀ k, k < n → qL Q k ≤ b) → mxN Q n ≤ b
  | 0, _ => Nat.zero_le _
  | n + 1, h => by
    have h1 := mxN_le Q b n fun k hk => h k (by omega)
    have h2 := h n (by omega)
    simp only [mxN]
    split <;> omega
/-- What the law takes for a row. -/
def okR (Q : List NC) (k : Nat) : Prop := qL Q k ≤ 30 ∧ ∀ i, i < qL Q k * 2 → -1048576 ≤ (rw_ Q k).getD i 0 ∧ (rw_ Q k).getD i 0 ≤ 1048576
theorem pair_at {A : List Int} {k : Nat} (h : k * 2 + 2 ≤ A.length) : List.take 2 (List.drop (k * 2) A) = [A.getD (k * 2) 0, A.getD (k * 2 + 1) 0] := by
  refine tbl_ext (by rw [List.length_take, List.length_drop]; simp; omega) fun j hj => ?_
  rw [List.length_take, List.length_drop] at hj
  have h2 : j = 0 ∨ j = 1 := by omega
  rcases h2 with rfl | rfl <;> simp [List.getElem?_take, List.getElem?_drop]
theorem at0 (x y : Int) : ([x, y] : List Int)[(0 : Nat)]? = some x := rfl
theorem at1 (x y : Int) : ([x, y] : List Int)[(1 : Nat)]? = some y := rfl
theorem len2 (x y : Int) : ([x, y] : List Int).length = 2 := rfl
theorem drop2 : List.drop (0 + 2) ([0, 0] : List Int) = [] := rfl
/-- One row's samples. -/
theorem row_ok (N : Nat) (Q : List NC) (M : Int) (i : Nat) (hi : i < N) (hN : N ≤ 20) (hQ : N ≤ Q.length) (he : Even Q) (h30 : qL Q i ≤ 30) :
    (L3_0 (0, [.n N, .x Q, .i M, .i (i : Int), .i 0]) = some (0, [.n N, .x Q, .i M, .i (i : Int)]) ∧ ∀ k, k < qL Q i → (-1048576 ≤ (rw_ Q i).getD (k * 2) 0 ∧ (rw_ Q i).getD (k * 2) 0 ≤ 1048576) ∧ (-1048576 ≤ (rw_ Q i).getD (k * 2 + 1) 0 ∧ (rw_ Q i).getD (k * 2 + 1) 0 ≤ 1048576))
    ∨ ∃ j r, L3_0 (0, [.n N, .x Q, .i M, .i (i : Int), .i 0]) = some (j, r) ∧ (j = 1 ∧ ∃ l, r = [.b true, .l l]) := by
  have hl := he i (by omega)
  have hq := q_get (Q := Q) (k := i) (by omega)
  have hrw : (Q.getD i ⟨0, []⟩).l = rw_ Q i := rfl
  have hqL : (rw_ Q i).length / 2 = qL Q i := rfl
  refine loop_or (m := 1) (f := f3_0) (by omega) (fun k => [.n N, .x Q, .i M, .i (i : Int), .i (k : Int)]) (qL Q i) _ _ (by omega) (fun k hk => ?_) (fun _ => ?_)
  · have hp := pair_at (A := rw_ Q i) (k := k) (by omega)
    have w2 : IntKind.i64.wrap ((k : Int) + 1) = ((k + 1 : Nat) : Int) := wrap_nat (n := k + 1) (by omega)
    generalize (rw_ Q i).getD (k * 2) 0 = x at *
    generalize (rw_ Q i).getD (k * 2 + 1) 0 = y at *
    simp -implicitDefEqProofs only [f3_0, f3_0_0, asI_i, asN_n, asL_l, asB_b, asX_x, asE_nil, Bool.cond_decide, if_pos (show (0 : Int) ≤ (i : Int) ∧ (i : Int) < N by omega), Int.toNat_natCast, hq, optK_some, hrw, hqL, if_pos (show (k : Int) < (qL Q i : Int) by omega), if_pos (show (0 : Int) ≤ (k : Int) ∧ (k : Int) < (qL Q i : Int) by omega), if_pos (show k * 2 + 2 ≤ (rw_ Q i).length by omega), hp, len2, if_true, Nat.zero_add, Nat.le_refl, show List.drop 2 ([0, 0] : List Int) = [] from rfl, List.append_nil, at0, at1, awakeL_ok, altK_0, w2]
    by_cases c1 : x < -1048576
    · rw [if_pos c1]; exact .inr ⟨1, _, rfl, rfl, _, rfl⟩
    rw [if_neg c1]
    by_cases c2 : 1048576 < x
    · rw [if_pos c2]; exact .inr ⟨1, _, rfl, rfl, _, rfl⟩
    rw [if_neg c2]
    by_cases c3 : y < -1048576
    · rw [if_pos c3]; exact .inr ⟨1, _, rfl, rfl, _, rfl⟩
    rw [if_neg c3]
    by_cases c4 : 1048576 < y
    · rw [if_pos c4]; exact .inr ⟨1, _, rfl, rfl, _, rfl⟩
    rw [if_neg c4]
    exact .inl ⟨rfl, by omega, by omega⟩
  · simp -implicitDefEqProofs only [f3_0, f3_0_0, asI_i, asN_n, asL_l, asB_b, asX_x, asE_nil, Bool.cond_decide, if_pos (show (0 : Int) ≤ (i : Int) ∧ (i : Int) < N by omega), Int.toNat_natCast, hq, optK_some, hrw, hqL, if_neg (Int.lt_irrefl _)]
theorem okR_of {Q : List NC} {i : Nat} (h30 : qL Q i ≤ 30) (h : ∀ k, k < qL Q i → (-1048576 ≤ (rw_ Q i).getD (k * 2) 0 ∧ (rw_ Q i).getD (k * 2) 0 ≤ 1048576) ∧ (-1048576 ≤ (rw_ Q i).getD (k * 2 + 1) 0 ∧ (rw_ Q i).getD (k * 2 + 1) 0 ≤ 1048576)) : okR Q i := by
  refine ⟨h30, fun j hj => ?_⟩
  have h2 := h (j / 2) (by omega)
  by_cases e : j % 2 = 0
  · rw [show j / 2 * 2 = j by omega] at h2; exact h2.1
  · rw [show j / 2 * 2 + 1 = j by omega] at h2; exact h2.2
theorem rows_ok (N : Nat) (Q : List NC) (hN : N ≤ 20) (hQ : N ≤ Q.length) (he : Even Q) :
    (L3_1 (0, [.n N, .x Q, .i 0, .i 0]) = some (0, [.n N, .x Q, .i (mxN Q N : Nat)]) ∧ ∀ k, k < N → okR Q k)
    ∨ ∃ j r, L3_1 (0, [.n N, .x Q, .i 0, .i 0]) = some (j, r) ∧ ((j = 1 ∧ r = [.b true]) ∨ (j = 2 ∧ ∃ l, r = [.b true, .l l])) := by
  refine loop_or (m := 1) (f := f3_1) (by omega) (fun k => [.n N, .x Q, .i (mxN Q k : Nat), .i (k : Int)]) N _ _ (by omega) (fun k hk => ?_) (fun _ => ?_)
  · have hq := q_get (Q := Q) (k := k) (by omega)
    have hrw : (Q.getD k ⟨0, []⟩).l = rw_ Q k := rfl
    have hqL : (rw_ Q k).length / 2 = qL Q k := rfl
    have w2 : IntKind.i64.wrap ((k : Int) + 1) = ((k + 1 : Nat) : Int) := wrap_nat (n := k + 1) (by omega)
    have hi : (0 : Int) ≤ (k : Int) ∧ (k : Int) < N := by omega
    by_cases h30 : (30 : Int) < (qL Q k : Int)
    · simp -implicitDefEqProofs only [f3_1, f3_1_0, asI_i, asN_n, asL_l, asB_b, asX_x, asE_nil, Bool.cond_decide, if_pos hi.2, if_pos hi, Int.toNat_natCast, hq, optK_some, hrw, hqL, if_pos h30, awakeL_ok, altK_0]
      exact .inr ⟨1, _, rfl, .inl ⟨rfl, rfl⟩⟩
    · rcases row_ok N Q (mxN Q k : Nat) k hk hN hQ he (by omega) with ⟨h1, h2⟩ | ⟨j, r, h1, rfl, l, rfl⟩
      · have hm : mxN Q (k + 1) = if mxN Q k < qL Q k then qL Q k else mxN Q k := rfl
        simp -implicitDefEqProofs only [f3_1, f3_1_0, asI_i, asN_n, asL_l, asB_b, asX_x, asE_nil, Bool.cond_decide, if_pos hi.2, if_pos hi, Int.toNat_natCast, hq, optK_some, hrw, hqL, if_neg h30, h1, altK_0, w2]
        by_cases c : mxN Q k < qL Q k
        · rw [if_pos (show ((mxN Q k : Nat) : Int) < (qL Q k : Int) by omega), hm, if_pos c]
          exact .inl ⟨rfl, okR_of (by omega) h2⟩
        · rw [if_neg (show ¬ ((mxN Q k : Nat) : Int) < (qL Q k : Int) by omega), hm, if_neg c]
          exact .inl ⟨rfl, okR_of (by omega) h2⟩
      · simp -implicitDefEqProofs only [f3_1, f3_1_0, asI_i, asN_n, asL_l, asB_b, asX_x, asE_nil, Bool.cond_decide, if_pos hi.2, if_pos hi, Int.toNat_natCast, hq, optK_some, hrw, hqL, if_neg h30, h1, altK_1]
        exact .inr ⟨2, _, rfl, .inr ⟨rfl, l, rfl⟩⟩
  · simp -implicitDefEqProofs only [f3_1, f3_1_0, asI_i, asN_n, asL_l, asB_b, asX_x, asE_nil, Bool.cond_decide, if_neg (Int.lt_irrefl _)]

/-! ### What bus.Mix makes -/
def tot (Q : List NC) (c o : Nat) : Nat → Int
  | 0 => 0
  | k + 1 => if c < qL Q k then tot Q c o k + (rw_ Q k).getD (c * 2 + o) 0 else tot Q c o k
def col (Q : List NC) (c o : Nat) : Nat → List Int
  | 0 => []
  | k + 1 => if c < qL Q k then col Q c o k ++ [(rw_ Q k).getD (c * 2 + o) 0] else col Q c o k
def cnt (Q : List NC) (c : Nat) : Nat → Nat
  | 0 => 0
  | k + 1 => if c < qL Q k then cnt Q c k + 1 else cnt Q c k
theorem col_len (Q : List NC) (c o : Nat) : ∀ k, (col Q c o k).length = cnt Q c k
  | 0 => rfl
  | k + 1 => by
    simp only [col, cnt]
    split
    · rw [List.length_append, col_len Q c o k]; rfl
    · exact col_len Q c o k
theorem cnt_le (Q : List NC) (c : Nat) : ∀ k, cnt Q c k ≤ k
  | 0 => Nat.le_refl _
  | k + 1 => by
    have := cnt_le Q c k
    simp only [cnt]
    split <;> omega
theorem tot_in {Q : List NC} {c o : Nat} (ho : o < 2) : ∀ k, (∀ i, i < k → okR Q i) → -1048576 * (k : Int) ≤ tot Q c o k ∧ tot Q c o k ≤ 1048576 * (k : Int)
  | 0, _ => by simp [tot]
  | k + 1, h => by
    have h1 := tot_in (c := c) ho k fun i hi => h i (by omega)
    have h2 := (h k (by omega)).2
    simp only [tot]
    split
    · have h3 := h2 (c * 2 + o) (by omega)
      omega
    · omega
theorem sumTo_le {A B : List Int} : ∀ k, k ≤ A.length → sumTo (A ++ B) k = sumTo A k
  | 0, _ => rfl
  | k + 1, h => by
    simp only [sumTo]
    rw [sumTo_le k (by omega)]
    congr 1
    simp [List.getElem?_append_left (show k < A.length by omega)]
theorem sum_col (Q : List NC) (c o : Nat) : ∀ k, sumTo (col Q c o k) (cnt Q c k) = tot Q c o k
  | 0 => rfl
  | k + 1 => by
    have hl := col_len Q c o k
    simp only [col, cnt, tot]
    split
    · simp only [sumTo]
      rw [sumTo_le _ (by omega), sum_col Q c o k]
      congr 1
      rw [← hl]
      simp
    · exact sum_col Q c o k
theorem col_small {Q : List NC} {c o : Nat} (ho : o < 2) : ∀ k, (∀ i, i < k → okR Q i) → Small (col Q c o k)
  | 0, _ => fun j hj => by simp [col] at hj
  | k + 1, h => by
    have h1 := col_small (c := c) ho k fun i hi => h i (by omega)
    have h2 := (h k (by omega)).2
    intro j hj
    simp only [col] at hj ⊢
    split
    · rename_i hc
      rw [if_pos hc, List.length_append] at hj
      simp only [List.length_cons, List.length_nil] at hj
      by_cases e : j < (col Q c o k).length
      · rw [show (col Q c o k ++ [(rw_ Q k).getD (c * 2 + o) 0]).getD j 0 = (col Q c o k).getD j 0 by simp [List.getElem?_append_left e]]
        exact h1 j e
      · rw [show (col Q c o k ++ [(rw_ Q k).getD (c * 2 + o) 0]).getD j 0 = (rw_ Q k).getD (c * 2 + o) 0 by
          rw [show j = (col Q c o k).length by omega]
          simp]
        exact h2 _ (by omega)
    · rename_i hc
      rw [if_neg hc] at hj
      exact h1 j hj
theorem max_ok (N : Nat) (Q : List NC) (hN : N ≤ 20) (hQ : N ≤ Q.length) (h30 : ∀ k, k < N → qL Q k ≤ 30) : L7_0 (0, [.n N, .x Q, .i 0, .n N, .x Q, .i (N : Int), .i 0]) = some (0, [.n N, .x Q, .i (mxN Q N : Nat)]) := by
  refine loop1_run (fun k => [.n N, .x Q, .i (mxN Q k : Nat), .n N, .x Q, .i (N : Int), .i (k : Int)]) N (fun k hk => ?_) ?_ (by omega)
  · have hq := q_get (Q := Q) (k := k) (by omega)
    have hrw : (Q.getD k ⟨0, []⟩).l = rw_ Q k := rfl
    have hqL : (rw_ Q k).length / 2 = qL Q k := rfl
    have w2 : IntKind.i64.wrap ((k : Int) + 1) = ((k + 1 : Nat) : Int) := wrap_nat (n := k + 1) (by omega)
    have hm : mxN Q (k + 1) = if mxN Q k < qL Q k then qL Q k else mxN Q k := rfl
    simp -implicitDefEqProofs only [f7_0, f7_0_0, asI_i, asN_n, asL_l, asB_b, asX_x, asE_nil, Bool.cond_decide, if_pos (show (k : Int) < N by omega), if_pos (show (0 : Int) ≤ (k : Int) ∧ (k : Int) < N by omega), Int.toNat_natCast, hq, optK_some, hrw, hqL, w2]
    rw [hm]
    by_cases c : mxN Q k < qL Q k
    · rw [if_pos (show ((qL Q k : Nat) : Int) > (mxN Q k : Int) by omega), if_pos c]
    · rw [if_neg (show ¬ ((qL Q k : Nat) : Int) > (mxN Q k : Int) by omega), if_neg c]
  · simp -implicitDefEqProofs only [f7_0, f7_0_0, asI_i, asN_n, asL_l, asB_b, asX_x, asE_nil, Bool.cond_decide, if_neg (Int.lt_irrefl _)]
end Go.Proofs.Ytlbfafbhflblcaa
