/-
  The law of the sums of any samples, and of samples that swell. Conditions: none.
-/
import Derived.Test.YtgmlibigknnbmaaNumc
import Derived.Test.YtgmlibigknnbmaaLtab
namespace Go.Proofs.Ytgmlibigknnbmaa
open Go Go.Sx S
set_option maxRecDepth 100000
set_option linter.unusedVariables false
attribute [local simp] asI_i asB_b asL_l asN_n asS_s asE_nil altK_none altK_0 altK_1 altK_2 altK_3 optK_some optK_none Bool.cond_decide Bool.cond_not Int.toNat_natCast
set_option linter.unusedSimpArgs false
def rw_ (Q : List NC) (k : Nat) : List Int := (Q.getD k ⟨0, []⟩).l
def qL (Q : List NC) (k : Nat) : Nat := (rw_ Q k).length
theorem q_get {Q : List NC} {k : Nat} (h : k < Q.length) : Q[k]? = some (Q.getD k ⟨0, []⟩) := get_someN h
theorem altK_of {x : Option (Nat × List Leaf)} {j : Nat} {r : List Leaf} (h : x = some (j, r)) (ks : List (List Leaf → Option (Nat × List Leaf))) (z : Option (Nat × List Leaf)) : altK x ks z = altK (some (j, r)) ks z := by rw [h]
/-! ### What the law keeps of its lists -/
def cl (x : Int) : Int := Int.tmod x 1048577
def cut (Q : List NC) (k : Nat) : List Int := fewL 60 cl (rw_ Q k)
def fw (Q : List NC) (k : Nat) : List NC := (List.range k).map fun i => ⟨0, cut Q i⟩
theorem cut_len (Q : List NC) (k : Nat) : (cut Q k).length = min 60 (qL Q k) := fewL_len _ _ _
theorem fw_len (Q : List NC) (k : Nat) : (fw Q k).length = k := by simp [fw]
theorem fw_next (Q : List NC) (k : Nat) : fw Q (k + 1) = fw Q k ++ [⟨0, cut Q k⟩] := by simp [fw, List.range_succ]
theorem fw_rw {Q : List NC} {N k : Nat} (h : k < N) : rw_ (fw Q N) k = cut Q k := by simp [rw_, fw, h]
theorem cut_get {Q : List NC} {i k : Nat} (h : k < (cut Q i).length) : (cut Q i)[k]? = some (cl ((rw_ Q i).getD k 0)) := by
  rw [cut_len] at h
  exact fewL_get (by omega) (by unfold qL at h; omega)
theorem cut_in (Q : List NC) (i k : Nat) : -1048576 ≤ (cut Q i).getD k 0 ∧ (cut Q i).getD k 0 ≤ 1048576 := by
  by_cases h : k < (cut Q i).length
  · have h1 := cut_get h
    have h2 := get_some h
    rw [h1] at h2
    have h3 : cl ((rw_ Q i).getD k 0) = (cut Q i).getD k 0 := Option.some.inj h2
    rw [← h3]
    unfold cl
    have h4 := Int.tmod_lt_of_pos ((rw_ Q i).getD k 0) (show (0 : Int) < 1048577 by omega)
    have h5 : -1048577 < Int.tmod ((rw_ Q i).getD k 0) 1048577 := Int.lt_tmod_of_pos _ (by omega)
    omega
  · have h1 : (cut Q i).getD k 0 = 0 := by
      rw [List.getD_eq_getElem?_getD, List.getElem?_eq_none (by omega)]
      rfl
    omega

theorem in_0 (n : Nat) (Q : List NC) (i : Nat) (hQ : Q.length = n) (hi : i < n) : L16_0 (0, [.n n, .x Q, .i (i : Int), .i 0]) = some (if (cut Q i).length = 0 then (0, [.n n, .x Q, .i (i : Int)]) else (1, [.n n, .x Q, .i (i : Int), .n (cut Q i).length, .l (cut Q i)])) := by
  have hcl := cut_len Q i
  have hq := q_get (Q := Q) (k := i) (by omega)
  have hrw : (Q.getD i ⟨0, []⟩).l = rw_ Q i := rfl
  have hqL : (rw_ Q i).length = qL Q i := rfl
  have hi2 : (0 : Int) ≤ (i : Int) ∧ (i : Int) < n := by omega
  have main := iterL_run (m := 4) (f := f16_0) (fun k => if k = 0 then (0, [.n n, .x Q, .i (i : Int), .i 0]) else (1, [.n n, .x Q, .i (i : Int), .n k, .i (k : Int), .l ((cut Q i).take k)])) (j := ((if (cut Q i).length = 0 then (0, [.n n, .x Q, .i (i : Int)]) else (1, [.n n, .x Q, .i (i : Int), .n (cut Q i).length, .l (cut Q i)]) : Nat × List Leaf)).1) (r := ((if (cut Q i).length = 0 then (0, [.n n, .x Q, .i (i : Int)]) else (1, [.n n, .x Q, .i (i : Int), .n (cut Q i).length, .l (cut Q i)]) : Nat × List Leaf)).2) (cut Q i).length 0 loopFuel (fun k _ hk => ?_) ?_ (fuel_pos (by omega))
  · exact main
  · have hk' : k < (cut Q i).length := by omega
    have hg := cut_get hk'
    have ht := take_snoc hg
    have hx := get_some (l := rw_ Q i) (i := k) (by omega)
    have w2 : IntKind.i64.wrap ((k : Int) + 1) = ((k + 1 : Nat) : Int) := wrap_nat (n := k + 1) (by omega)
    have hcv : Int.tmod ((rw_ Q i).getD k 0) 1048577 = cl ((rw_ Q i).getD k 0) := rfl
    rw [if_neg (Nat.succ_ne_zero k), ht]
    refine ⟨?_, by show 1 < 4; omega⟩
    generalize hcc : cl ((rw_ Q i).getD k 0) = cc at *
    generalize (rw_ Q i).getD k 0 = x at *
    by_cases h0 : k = 0
    · subst h0
      have w2 : IntKind.i64.wrap ((0 : Int) + 1) = ((0 + 1 : Nat) : Int) := rfl
      rw [if_pos rfl, List.take_zero, List.nil_append]
      simp -implicitDefEqProofs only [f16_0, f16_0_0, asI_i, asN_n, asL_l, asB_b, asX_x, asE_nil, Bool.cond_decide, if_pos hi2, Int.toNat_natCast, Int.toNat_zero, hq, optK_some, hrw, hqL, if_pos (show (0 : Int) < (qL Q i : Int) by omega), if_pos (show (0 : Int) < 60 by omega), if_pos (show (0 : Int) ≤ 0 ∧ (0 : Int) < (qL Q i : Int) by omega), hx, hcv, w2, Nat.zero_add]
    · rw [if_neg h0]
      have hlen : ((cut Q i).take k).length = k := by rw [List.length_take]; omega
      generalize (cut Q i).take k = T at *
      simp -implicitDefEqProofs only [f16_0, f16_0_1, asI_i, asN_n, asL_l, asB_b, asX_x, asE_nil, Bool.cond_decide, if_pos hi2, Int.toNat_natCast, hq, optK_some, hrw, hqL, if_pos (show (k : Int) < (qL Q i : Int) by omega), if_pos (show (k : Int) < 60 by omega), if_pos (show (0 : Int) ≤ (k : Int) ∧ (k : Int) < (qL Q i : Int) by omega), hx, hcv, w2, if_pos (show (k + 1) * 8 ≤ 70368744177664 by omega), if_pos (show T.length = k * 1 by omega)]
  · rw [Nat.zero_add]
    by_cases h0 : (cut Q i).length = 0
    · simp -implicitDefEqProofs only [if_pos h0, f16_0, f16_0_0, asI_i, asN_n, asL_l, asB_b, asX_x, asE_nil, Bool.cond_decide, if_pos hi2, Int.toNat_natCast, hq, optK_some, hrw, hqL, if_neg (show ¬ (0 : Int) < (qL Q i : Int) by omega)]
    · rw [List.take_of_length_le (Nat.le_refl _)]
      by_cases h1 : 60 ≤ qL Q i
      · by_cases h2 : (60 : Int) < (qL Q i : Int)
        · simp -implicitDefEqProofs only [if_neg h0, f16_0, f16_0_1, asI_i, asN_n, asL_l, asB_b, asX_x, asE_nil, Bool.cond_decide, if_pos hi2, Int.toNat_natCast, hq, optK_some, hrw, hqL, if_pos (show ((cut Q i).length : Int) < (qL Q i : Int) by omega), if_neg (show ¬ ((cut Q i).length : Int) < 60 by omega)]
        · simp -implicitDefEqProofs only [if_neg h0, f16_0, f16_0_1, asI_i, asN_n, asL_l, asB_b, asX_x, asE_nil, Bool.cond_decide, if_pos hi2, Int.toNat_natCast, hq, optK_some, hrw, hqL, if_neg (show ¬ ((cut Q i).length : Int) < (qL Q i : Int) by omega)]
      · simp -implicitDefEqProofs only [if_neg h0, f16_0, f16_0_1, asI_i, asN_n, asL_l, asB_b, asX_x, asE_nil, Bool.cond_decide, if_pos hi2, Int.toNat_natCast, hq, optK_some, hrw, hqL, if_neg (show ¬ ((cut Q i).length : Int) < (qL Q i : Int) by omega)]
theorem in_2 (n : Nat) (Q : List NC) (i : Nat) (q : Nat) (W : List NC) (hQ : Q.length = n) (hi : i < n) : L16_0 (2, [.n n, .x Q, .n q, .i (i : Int), .i 0, .x W]) = some (if (cut Q i).length = 0 then (2, [.n n, .x Q, .n q, .i (i : Int), .x W]) else (3, [.n n, .x Q, .n q, .i (i : Int), .n (cut Q i).length, .x W, .l (cut Q i)])) := by
  have hcl := cut_len Q i
  have hq := q_get (Q := Q) (k := i) (by omega)
  have hrw : (Q.getD i ⟨0, []⟩).l = rw_ Q i := rfl
  have hqL : (rw_ Q i).length = qL Q i := rfl
  have hi2 : (0 : Int) ≤ (i : Int) ∧ (i : Int) < n := by omega
  have main := iterL_run (m := 4) (f := f16_0) (fun k => if k = 0 then (2, [.n n, .x Q, .n q, .i (i : Int), .i 0, .x W]) else (3, [.n n, .x Q, .n q, .i (i : Int), .n k, .i (k : Int), .x W, .l ((cut Q i).take k)])) (j := ((if (cut Q i).length = 0 then (2, [.n n, .x Q, .n q, .i (i : Int), .x W]) else (3, [.n n, .x Q, .n q, .i (i : Int), .n (cut Q i).length, .x W, .l (cut Q i)]) : Nat × List Leaf)).1) (r := ((if (cut Q i).length = 0 then (2, [.n n, .x Q, .n q, .i (i : Int), .x W]) else (3, [.n n, .x Q, .n q, .i (i : Int), .n (cut Q i).length, .x W, .l (cut Q i)]) : Nat × List Leaf)).2) (cut Q i).length 0 loopFuel (fun k _ hk => ?_) ?_ (fuel_pos (by omega))
  · exact main
  · have hk' : k < (cut Q i).length := by omega
    have hg := cut_get hk'
    have ht := take_snoc hg
    have hx := get_some (l := rw_ Q i) (i := k) (by omega)
    have w2 : IntKind.i64.wrap ((k : Int) + 1) = ((k + 1 : Nat) : Int) := wrap_nat (n := k + 1) (by omega)
    have hcv : Int.tmod ((rw_ Q i).getD k 0) 1048577 = cl ((rw_ Q i).getD k 0) := rfl
    rw [if_neg (Nat.succ_ne_zero k), ht]
    refine ⟨?_, by show 3 < 4; omega⟩
    generalize hcc : cl ((rw_ Q i).getD k 0) = cc at *
    generalize (rw_ Q i).getD k 0 = x at *
    by_cases h0 : k = 0
    · subst h0
      have w2 : IntKind.i64.wrap ((0 : Int) + 1) = ((0 + 1 : Nat) : Int) := rfl
      rw [if_pos rfl, List.take_zero, List.nil_append]
      simp -implicitDefEqProofs only [f16_0, f16_0_2, asI_i, asN_n, asL_l, asB_b, asX_x, asE_nil, Bool.cond_decide, if_pos hi2, Int.toNat_natCast, Int.toNat_zero, hq, optK_some, hrw, hqL, if_pos (show (0 : Int) < (qL Q i : Int) by omega), if_pos (show (0 : Int) < 60 by omega), if_pos (show (0 : Int) ≤ 0 ∧ (0 : Int) < (qL Q i : Int) by omega), hx, hcv, w2, Nat.zero_add]
    · rw [if_neg h0]
      have hlen : ((cut Q i).take k).length = k := by rw [List.length_take]; omega
      generalize (cut Q i).take k = T at *
      simp -implicitDefEqProofs only [f16_0, f16_0_3, asI_i, asN_n, asL_l, asB_b, asX_x, asE_nil, Bool.cond_decide, if_pos hi2, Int.toNat_natCast, hq, optK_some, hrw, hqL, if_pos (show (k : Int) < (qL Q i : Int) by omega), if_pos (show (k : Int) < 60 by omega), if_pos (show (0 : Int) ≤ (k : Int) ∧ (k : Int) < (qL Q i : Int) by omega), hx, hcv, w2, if_pos (show (k + 1) * 8 ≤ 70368744177664 by omega), if_pos (show T.length = k * 1 by omega)]
  · rw [Nat.zero_add]
    by_cases h0 : (cut Q i).length = 0
    · simp -implicitDefEqProofs only [if_pos h0, f16_0, f16_0_2, asI_i, asN_n, asL_l, asB_b, asX_x, asE_nil, Bool.cond_decide, if_pos hi2, Int.toNat_natCast, hq, optK_some, hrw, hqL, if_neg (show ¬ (0 : Int) < (qL Q i : Int) by omega)]
    · rw [List.take_of_length_le (Nat.le_refl _)]
      by_cases h1 : 60 ≤ qL Q i
      · by_cases h2 : (60 : Int) < (qL Q i : Int)
        · simp -implicitDefEqProofs only [if_neg h0, f16_0, f16_0_3, asI_i, asN_n, asL_l, asB_b, asX_x, asE_nil, Bool.cond_decide, if_pos hi2, Int.toNat_natCast, hq, optK_some, hrw, hqL, if_pos (show ((cut Q i).length : Int) < (qL Q i : Int) by omega), if_neg (show ¬ ((cut Q i).length : Int) < 60 by omega)]
        · simp -implicitDefEqProofs only [if_neg h0, f16_0, f16_0_3, asI_i, asN_n, asL_l, asB_b, asX_x, asE_nil, Bool.cond_decide, if_pos hi2, Int.toNat_natCast, hq, optK_some, hrw, hqL, if_neg (show ¬ ((cut Q i).length : Int) < (qL Q i : Int) by omega)]
      · simp -implicitDefEqProofs only [if_neg h0, f16_0, f16_0_3, asI_i, asN_n, asL_l, asB_b, asX_x, asE_nil, Bool.cond_decide, if_pos hi2, Int.toNat_natCast, hq, optK_some, hrw, hqL, if_neg (show ¬ ((cut Q i).length : Int) < (qL Q i : Int) by omega)]
theorem few_ok (n N : Nat) (Q : List NC) (hQ : Q.length = n) (hN : N = min 10 n) : g16 (0, [.n n, .x Q]) = some (if N = 0 then (0, []) else (1, [.n N, .x (fw Q N)])) := by
  have hl : L16_1 (0, [.n n, .x Q, .i 0]) = some (if N = 0 then (0, []) else (1, [.n N, .x (fw Q N)])) := by
    have main := iterL_run (m := 2) (f := f16_1) (fun k => if k = 0 then (0, [.n n, .x Q, .i 0]) else (1, [.n n, .x Q, .n k, .i (k : Int), .x (fw Q k)])) (j := ((if N = 0 then (0, []) else (1, [.n N, .x (fw Q N)]) : Nat × List Leaf)).1) (r := ((if N = 0 then (0, []) else (1, [.n N, .x (fw Q N)]) : Nat × List Leaf)).2) N 0 loopFuel (fun k _ hk => ?_) ?_ (fuel_pos (by omega))
    · exact main
    · have hk' : k < N := by omega
      have w2 : IntKind.i64.wrap ((k : Int) + 1) = ((k + 1 : Nat) : Int) := wrap_nat (n := k + 1) (by omega)
      have hcl := cut_len Q k
      rw [if_neg (Nat.succ_ne_zero k), fw_next]
      refine ⟨?_, by show 1 < 2; omega⟩
      by_cases h0 : k = 0
      · subst h0
        have w2 : IntKind.i64.wrap ((0 : Int) + 1) = ((0 + 1 : Nat) : Int) := rfl
        have hin := in_0 n Q 0 hQ (by omega)
        rw [show ((0 : Nat) : Int) = 0 from rfl] at hin
        rw [if_pos rfl, show fw Q 0 = [] from rfl, List.nil_append]
        by_cases h1 : (cut Q 0).length = 0
        · rw [if_pos h1] at hin
          rw [List.length_eq_zero_iff.1 h1]
          simp -implicitDefEqProofs only [f16_1, f16_1_0, asI_i, asN_n, asL_l, asB_b, asX_x, asE_nil, Bool.cond_decide, if_pos (show (0 : Int) < (n : Int) by omega), if_pos (show (0 : Int) < 10 by omega), hin, altK_0, w2, Nat.zero_add]
        · rw [if_neg h1] at hin
          have htk : List.take ((cut Q 0).length * 1) (List.drop 0 (cut Q 0)) = cut Q 0 := by rw [Nat.mul_one, List.drop_zero, List.take_length]
          generalize cut Q 0 = T at *
          simp -implicitDefEqProofs only [f16_1, f16_1_0, asI_i, asN_n, asL_l, asB_b, asX_x, asE_nil, Bool.cond_decide, if_pos (show (0 : Int) < (n : Int) by omega), if_pos (show (0 : Int) < 10 by omega), hin, altK_1, w2, if_pos (show T.length * 1 ≤ T.length by omega), Nat.zero_add]
          rw [show List.take (T.length * 1) (List.drop (nat_lit 0) T) = T from htk]
      · have hin := in_2 n Q k k (fw Q k) hQ (by omega)
        have hfl := fw_len Q k
        rw [if_neg h0]
        generalize fw Q k = W at *
        by_cases h1 : (cut Q k).length = 0
        · rw [if_pos h1] at hin
          rw [List.length_eq_zero_iff.1 h1]
          simp -implicitDefEqProofs only [f16_1, f16_1_1, asI_i, asN_n, asL_l, asB_b, asX_x, asE_nil, Bool.cond_decide, if_pos (show (k : Int) < (n : Int) by omega), if_pos (show (k : Int) < 10 by omega), hin, altK_2, w2, if_pos (show (k + 1) * 24 ≤ 70368744177664 by omega), if_pos (show W.length = k * 1 by omega)]
        · rw [if_neg h1] at hin
          have htk : List.take ((cut Q k).length * 1) (List.drop 0 (cut Q k)) = cut Q k := by rw [Nat.mul_one, List.drop_zero, List.take_length]
          generalize cut Q k = T at *
          simp -implicitDefEqProofs only [f16_1, f16_1_1, asI_i, asN_n, asL_l, asB_b, asX_x, asE_nil, Bool.cond_decide, if_pos (show (k : Int) < (n : Int) by omega), if_pos (show (k : Int) < 10 by omega), hin, altK_3, w2, if_pos (show 0 + T.length * 1 ≤ T.length by omega), if_pos (show (k + 1) * 24 ≤ 70368744177664 by omega), if_pos (show W.length = k * 1 by omega)]
          rw [show List.take (T.length * 1) (List.drop (nat_lit 0) T) = T from htk]
    · rw [Nat.zero_add]
      by_cases h0 : N = 0
      · simp -implicitDefEqProofs only [if_pos h0, f16_1, f16_1_0, asI_i, asN_n, asL_l, asB_b, asX_x, asE_nil, Bool.cond_decide, if_neg (show ¬ (0 : Int) < (n : Int) by omega)]
      · by_cases h1 : (N : Int) < (n : Int)
        · simp -implicitDefEqProofs only [if_neg h0, f16_1, f16_1_1, asI_i, asN_n, asL_l, asB_b, asX_x, asE_nil, Bool.cond_decide, if_pos h1, if_neg (show ¬ (N : Int) < 10 by omega)]
        · simp -implicitDefEqProofs only [if_neg h0, f16_1, f16_1_1, asI_i, asN_n, asL_l, asB_b, asX_x, asE_nil, Bool.cond_decide, if_neg h1]
  by_cases h0 : N = 0
  · rw [if_pos h0] at hl ⊢
    simp -implicitDefEqProofs only [g16, g16_0, asI_i, asN_n, asL_l, asB_b, asX_x, asE_nil, Bool.cond_decide, hl, altK_0]
  · rw [if_neg h0] at hl ⊢
    simp -implicitDefEqProofs only [g16, g16_0, asI_i, asN_n, asL_l, asB_b, asX_x, asE_nil, Bool.cond_decide, hl, altK_1]
/-! ### Sums -/
def mxN (W : List NC) : Nat → Nat
  | 0 => 0
  | k + 1 => if mxN W k < qL W k then qL W k else mxN W k
theorem mxN_le (W : List NC) (b : Nat) : ∀ n, (∀ k, k < n → qL W k ≤ b) → mxN W n ≤ b
  | 0, _ => Nat.zero_le _
  | n + 1, h => by
    have h1 := mxN_le W b n fun k hk => h k (by omega)
    have h2 := h n (by omega)
    simp only [mxN]
    split <;> omega
def tot (W : List NC) (c : Nat) : Nat → Int
  | 0 => 0
  | k + 1 => if c < qL W k then tot W c k + (rw_ W k).getD c 0 else tot W c k
/-- What is known of the lists. -/
def okW (W : List NC) (N : Nat) : Prop := W.length = N ∧ N ≤ 10 ∧ (∀ k, k < N → qL W k ≤ 60) ∧ ∀ k c, k < N → -1048576 ≤ (rw_ W k).getD c 0 ∧ (rw_ W k).getD c 0 ≤ 1048576
theorem tot_in {W : List NC} {N : Nat} (h : okW W N) (c : Nat) : ∀ k, k ≤ N → -1048576 * (k : Int) ≤ tot W c k ∧ tot W c k ≤ 1048576 * (k : Int)
  | 0, _ => by simp [tot]
  | k + 1, hk => by
    have h1 := tot_in h c k (by omega)
    have h2 := h.2.2.2 k c (by omega)
    simp only [tot]
    split <;> omega
def sumTo (A : List Int) : Nat → Int
  | 0 => 0
  | k + 1 => sumTo A k + A.getD k 0
def Small (A : List Int) : Prop := ∀ k, k < A.length → -1048576000 ≤ A.getD k 0 ∧ A.getD k 0 ≤ 1048576000
theorem sumTo_in {A : List Int} (hA : Small A) : ∀ k, k ≤ A.length → -1048576000 * (k : Int) ≤ sumTo A k ∧ sumTo A k ≤ 1048576000 * (k : Int)
  | 0, _ => by simp [sumTo]
  | k + 1, h => by
    have h1 := sumTo_in hA k (by omega)
    have h2 := hA k (by omega)
    simp only [sumTo]
    omega
theorem add_ok (A : List Int) (n : Nat) (hn : A.length = n) (hA : Small A) (h8 : n ≤ 20) : g26 (0, [.n n, .l A]) = some (0, [.i (sumTo A n), .l A]) := by
  have hl : L26_0 (0, [.i 0, .n n, .i (n : Int), .i 0, .l A]) = some (0, [.i (sumTo A n), .l A]) := by
    refine loopL_run (m := 2) (f := f26_0) (fun k => (0, [.i (sumTo A k), .n n, .i (n : Int), .i (k : Int), .l A])) n (fun k hk => ⟨?_, by show 0 < 2; omega⟩) ?_ (by omega)
    · have hx := get_some (l := A) (i := k) (by omega)
      have b1 := sumTo_in hA k (by omega)
      have b2 := hA k (by omega)
      have w2 : IntKind.i64.wrap ((k : Int) + 1) = ((k + 1 : Nat) : Int) := wrap_nat (n := k + 1) (by omega)
      have w3 : IntKind.i64.wrap (sumTo A k + A.getD k 0) = sumTo A (k + 1) := wrap64 (by omega) (by omega)
      have e3 : sumTo A (k + 1) = sumTo A k + A.getD k 0 := rfl
      generalize A.getD k 0 = v at *
      generalize sumTo A (k + 1) = t at *
      generalize sumTo A k = s at *
      simp -implicitDefEqProofs only [f26_0, f26_0_0, asI_i, asN_n, asL_l, asB_b, asX_x, asE_nil, Bool.cond_decide, if_pos (show (k : Int) < n by omega), if_pos (show (0 : Int) ≤ k ∧ (k : Int) < n by omega), Int.toNat_natCast, hx, optK_some, w2, w3]
      repeat' split
      all_goals first | rfl | (exfalso; omega)
    · simp -implicitDefEqProofs only [f26_0, f26_0_0, asI_i, asN_n, asL_l, asB_b, asX_x, asE_nil, Bool.cond_decide, if_neg (Int.lt_irrefl _)]
  simp -implicitDefEqProofs only [g26, g26_0, asI_i, asN_n, asL_l, asB_b, asX_x, asE_nil, Bool.cond_decide, hl, altK_0]
theorem add2 (s x : Int) (hs : -1048576000 ≤ s ∧ s ≤ 1048576000) (hx : -1048576000 ≤ x ∧ x ≤ 1048576000) : g26 (0, [.n 2, .l [s, x]]) = some (0, [.i (s + x), .l [s, x]]) := by
  have h := add_ok [s, x] 2 rfl (fun k hk => by
    have h2 : k = 0 ∨ k = 1 := by simp at hk; omega
    rcases h2 with rfl | rfl
    · exact hs
    · exact hx) (by omega)
  rw [h, show sumTo [s, x] 2 = 0 + s + x from rfl, Int.zero_add]
theorem longest_ok (N : Nat) (W : List NC) (hW : okW W N) : g25 (0, [.n N, .x W]) = some (0, [.i (mxN W N : Nat), .x W]) := by
  have hl : L25_0 (0, [.i 0, .n N, .i (N : Int), .i 0, .x W]) = some (0, [.i (mxN W N : Nat), .x W]) := by
    obtain ⟨h1, h2, h3, h4⟩ := hW
    refine loopL_run (m := 2) (f := f25_0) (fun k => (0, [.i (mxN W k : Nat), .n N, .i (N : Int), .i (k : Int), .x W])) N (fun k hk => ⟨?_, by show 0 < 2; omega⟩) ?_ (by omega)
    · have hq := q_get (Q := W) (k := k) (by omega)
      have hrw : (W.getD k ⟨0, []⟩).l = rw_ W k := rfl
      have hqL : (rw_ W k).length = qL W k := rfl
      have w2 : IntKind.i64.wrap ((k : Int) + 1) = ((k + 1 : Nat) : Int) := wrap_nat (n := k + 1) (by omega)
      have hm : mxN W (k + 1) = if mxN W k < qL W k then qL W k else mxN W k := rfl
      simp -implicitDefEqProofs only [f25_0, f25_0_0, asI_i, asN_n, asL_l, asB_b, asX_x, asE_nil, Bool.cond_decide, if_pos (show (k : Int) < N by omega), if_pos (show (0 : Int) ≤ (k : Int) ∧ (k : Int) < N by omega), Int.toNat_natCast, hq, optK_some, hrw, hqL, w2]
      rw [hm]
      by_cases c : mxN W k < qL W k
      · rw [if_pos (show ((qL W k : Nat) : Int) > (mxN W k : Int) by omega), if_pos c]
      · rw [if_neg (show ¬ ((qL W k : Nat) : Int) > (mxN W k : Int) by omega), if_neg c]
    · simp -implicitDefEqProofs only [f25_0, f25_0_0, asI_i, asN_n, asL_l, asB_b, asX_x, asE_nil, Bool.cond_decide, if_neg (Int.lt_irrefl _)]
  simp -implicitDefEqProofs only [g25, g25_0, asI_i, asN_n, asL_l, asB_b, asX_x, asE_nil, Bool.cond_decide, hl, altK_0]

theorem col_0 (N : Nat) (W : List NC) (M : Int) (c : Nat) (hW : okW W N) : L17_0 (0, [.n N, .i (c : Int), .i 0, .i M, .i (c : Int), .n N, .i (N : Int), .i 0, .x W]) = some (0, [.n N, .i (tot W c N), .i M, .i (c : Int), .x W]) := by
  refine loopL_run (m := 4) (f := f17_0) (fun k => (0, [.n N, .i (c : Int), .i (tot W c k), .i M, .i (c : Int), .n N, .i (N : Int), .i (k : Int), .x W])) N (fun k hk => ⟨?_, by show 0 < 4; omega⟩) ?_ (by have := hW.2.1; omega)
  · have ht := tot_in hW c k (by omega)
    obtain ⟨h1, h2, h3, h4⟩ := hW
    have hb := h4 k c hk
    have hq := q_get (Q := W) (k := k) (by omega)
    have hrw : (W.getD k ⟨0, []⟩).l = rw_ W k := rfl
    have hqL : (rw_ W k).length = qL W k := rfl
    have w2 : IntKind.i64.wrap ((k : Int) + 1) = ((k + 1 : Nat) : Int) := wrap_nat (n := k + 1) (by omega)
    have hi : (0 : Int) ≤ (k : Int) ∧ (k : Int) < N := by omega
    have e : tot W c (k + 1) = if c < qL W k then tot W c k + (rw_ W k).getD c 0 else tot W c k := rfl
    show f17_0 (0, [.n N, .i (c : Int), .i (tot W c k), .i M, .i (c : Int), .n N, .i (N : Int), .i (k : Int), .x W]) = some (0, [.n N, .i (c : Int), .i (tot W c (k + 1)), .i M, .i (c : Int), .n N, .i (N : Int), .i ((k + 1 : Nat) : Int), .x W])
    rw [e]
    by_cases h : c < qL W k
    · have hx := get_some (l := rw_ W k) (i := c) h
      have ha := add2 (tot W c k) ((rw_ W k).getD c 0) (by omega) (by omega)
      have hci : (0 : Int) ≤ (c : Int) ∧ (c : Int) < (qL W k : Int) := by omega
      rw [if_pos h]
      generalize (rw_ W k).getD c 0 = x at *
      simp -implicitDefEqProofs only [f17_0, f17_0_0, asI_i, asN_n, asL_l, asB_b, asX_x, asE_nil, Bool.cond_decide, if_pos hi.2, if_pos hi, Int.toNat_natCast, hq, optK_some, hrw, hqL, if_pos hci.2, if_pos hci, hx, ha, altK_0, w2]
    · rw [if_neg h]
      simp -implicitDefEqProofs only [f17_0, f17_0_0, asI_i, asN_n, asL_l, asB_b, asX_x, asE_nil, Bool.cond_decide, if_pos hi.2, if_pos hi, Int.toNat_natCast, hq, optK_some, hrw, hqL, if_neg (show ¬ (c : Int) < (qL W k : Int) by omega), w2]
  · simp -implicitDefEqProofs only [f17_0, f17_0_0, asI_i, asN_n, asL_l, asB_b, asX_x, asE_nil, Bool.cond_decide, if_neg (Int.lt_irrefl _)]
theorem col_2 (N : Nat) (W : List NC) (M : Int) (c : Nat) (q : Nat) (T : List Int) (hW : okW W N) : L17_0 (2, [.n N, .n q, .i (c : Int), .i 0, .i M, .i (c : Int), .n N, .i (N : Int), .i 0, .x W, .l T]) = some (2, [.n N, .n q, .i (tot W c N), .i M, .i (c : Int), .x W, .l T]) := by
  refine loopL_run (m := 4) (f := f17_0) (fun k => (2, [.n N, .n q, .i (c : Int), .i (tot W c k), .i M, .i (c : Int), .n N, .i (N : Int), .i (k : Int), .x W, .l T])) N (fun k hk => ⟨?_, by show 2 < 4; omega⟩) ?_ (by have := hW.2.1; omega)
  · have ht := tot_in hW c k (by omega)
    obtain ⟨h1, h2, h3, h4⟩ := hW
    have hb := h4 k c hk
    have hq := q_get (Q := W) (k := k) (by omega)
    have hrw : (W.getD k ⟨0, []⟩).l = rw_ W k := rfl
    have hqL : (rw_ W k).length = qL W k := rfl
    have w2 : IntKind.i64.wrap ((k : Int) + 1) = ((k + 1 : Nat) : Int) := wrap_nat (n := k + 1) (by omega)
    have hi : (0 : Int) ≤ (k : Int) ∧ (k : Int) < N := by omega
    have e : tot W c (k + 1) = if c < qL W k then tot W c k + (rw_ W k).getD c 0 else tot W c k := rfl
    show f17_0 (2, [.n N, .n q, .i (c : Int), .i (tot W c k), .i M, .i (c : Int), .n N, .i (N : Int), .i (k : Int), .x W, .l T]) = some (2, [.n N, .n q, .i (c : Int), .i (tot W c (k + 1)), .i M, .i (c : Int), .n N, .i (N : Int), .i ((k + 1 : Nat) : Int), .x W, .l T])
    rw [e]
    by_cases h : c < qL W k
    · have hx := get_some (l := rw_ W k) (i := c) h
      have ha := add2 (tot W c k) ((rw_ W k).getD c 0) (by omega) (by omega)
      have hci : (0 : Int) ≤ (c : Int) ∧ (c : Int) < (qL W k : Int) := by omega
      rw [if_pos h]
      generalize (rw_ W k).getD c 0 = x at *
      simp -implicitDefEqProofs only [f17_0, f17_0_2, asI_i, asN_n, asL_l, asB_b, asX_x, asE_nil, Bool.cond_decide, if_pos hi.2, if_pos hi, Int.toNat_natCast, hq, optK_some, hrw, hqL, if_pos hci.2, if_pos hci, hx, ha, altK_0, w2]
    · rw [if_neg h]
      simp -implicitDefEqProofs only [f17_0, f17_0_2, asI_i, asN_n, asL_l, asB_b, asX_x, asE_nil, Bool.cond_decide, if_pos hi.2, if_pos hi, Int.toNat_natCast, hq, optK_some, hrw, hqL, if_neg (show ¬ (c : Int) < (qL W k : Int) by omega), w2]
  · simp -implicitDefEqProofs only [f17_0, f17_0_2, asI_i, asN_n, asL_l, asB_b, asX_x, asE_nil, Bool.cond_decide, if_neg (Int.lt_irrefl _)]
def outL (W : List NC) (N m : Nat) : List Int := tbl m fun c => satV (tot W c N)
theorem tbl_next (m : Nat) (f : Nat → Int) : tbl (m + 1) f = tbl m f ++ [f m] := by simp [tbl, List.range_succ]
theorem oadd_ok (N : Nat) (W : List NC) (hW : okW W N) : g17 (0, [.n N, .x W]) = some (if mxN W N = 0 then (0, [.x W]) else (2, [.n (mxN W N), .x W, .l (outL W N (mxN W N))])) := by
  have h1 := longest_ok N W hW
  have hM := mxN_le W 60 N hW.2.2.1
  generalize mxN W N = m at *
  have hl : L17_1 (0, [.n N, .i (m : Int), .i 0, .x W]) = some (if m = 0 then (0, [.x W]) else (2, [.n m, .x W, .l (outL W N m)])) := by
    have main := iterL_run (m := 4) (f := f17_1) (fun c => if c = 0 then (0, [.n N, .i (m : Int), .i 0, .x W]) else (2, [.n N, .n c, .i (m : Int), .i (c : Int), .x W, .l (outL W N c)])) (j := ((if m = 0 then (0, [.x W]) else (2, [.n m, .x W, .l (outL W N m)]) : Nat × List Leaf)).1) (r := ((if m = 0 then (0, [.x W]) else (2, [.n m, .x W, .l (outL W N m)]) : Nat × List Leaf)).2) m 0 loopFuel (fun c _ hc => ?_) ?_ (fuel_pos (by omega))
    · exact main
    · have hc' : c < m := by omega
      have w2 : IntKind.i64.wrap ((c : Int) + 1) = ((c + 1 : Nat) : Int) := wrap_nat (n := c + 1) (by omega)
      have hs := sat_ok (tot W c N)
      have hn : outL W N (c + 1) = outL W N c ++ [satV (tot W c N)] := tbl_next _ _
      rw [if_neg (Nat.succ_ne_zero c), hn]
      refine ⟨?_, by show 2 < 4; omega⟩
      generalize satV (tot W c N) = sv at *
      by_cases h0 : c = 0
      · subst h0
        have hcol := col_0 N W (m : Int) 0 hW
        rw [show ((0 : Nat) : Int) = 0 from rfl] at hcol
        have w2 : IntKind.i64.wrap ((0 : Int) + 1) = ((0 + 1 : Nat) : Int) := rfl
        rw [if_pos rfl, show outL W N 0 = [] from rfl, List.nil_append]
        simp -implicitDefEqProofs only [f17_1, f17_1_0, asI_i, asN_n, asL_l, asB_b, asX_x, asE_nil, Bool.cond_decide, if_pos (show (0 : Int) < (m : Int) by omega), hcol, altK_0, hs, w2, Nat.zero_add]
      · have hcol := col_2 N W (m : Int) c c (outL W N c) hW
        have hlen : (outL W N c).length = c := tbl_len _ _
        rw [if_neg h0]
        generalize outL W N c = O at *
        simp -implicitDefEqProofs only [f17_1, f17_1_2, asI_i, asN_n, asL_l, asB_b, asX_x, asE_nil, Bool.cond_decide, if_pos (show (c : Int) < (m : Int) by omega), hcol, altK_0, altK_2, hs, w2, if_pos (show (c + 1) * 8 ≤ 70368744177664 by omega), if_pos (show O.length = c * 1 by omega)]
    · rw [Nat.zero_add]
      by_cases h0 : m = 0
      · subst h0
        simp -implicitDefEqProofs only [if_true, f17_1, f17_1_0, asI_i, asN_n, asL_l, asB_b, asX_x, asE_nil, Bool.cond_decide, show ((0 : Nat) : Int) = 0 from rfl, if_neg (Int.lt_irrefl _)]
      · simp -implicitDefEqProofs only [if_neg h0, f17_1, f17_1_2, asI_i, asN_n, asL_l, asB_b, asX_x, asE_nil, Bool.cond_decide, if_neg (Int.lt_irrefl _)]
  by_cases h0 : m = 0
  · rw [if_pos h0] at hl ⊢
    simp -implicitDefEqProofs only [g17, g17_0, asI_i, asN_n, asL_l, asB_b, asX_x, asE_nil, Bool.cond_decide, h1, altK_0, hl]
  · rw [if_neg h0] at hl ⊢
    simp -implicitDefEqProofs only [g17, g17_0, asI_i, asN_n, asL_l, asB_b, asX_x, asE_nil, Bool.cond_decide, h1, altK_0, hl, altK_2]
/-! ### Samples that swell -/
theorem mul_pos_le {a b A B : Int} (ha : 0 ≤ a ∧ a ≤ A) (hb : 0 ≤ b ∧ b ≤ B) : 0 ≤ a * b ∧ a * b ≤ A * B :=
  ⟨Int.mul_nonneg ha.1 hb.1, Int.mul_le_mul ha.2 hb.2 hb.1 (by omega)⟩
theorem mul_abs_le {x t X T : Int} (hx : -X ≤ x ∧ x ≤ X) (ht : 0 ≤ t ∧ t ≤ T) : -(X * T) ≤ x * t ∧ x * t ≤ X * T := by
  have h1 := Int.mul_le_mul_of_nonneg_right hx.2 ht.1
  have h2 := Int.mul_le_mul_of_nonneg_left ht.2 (show 0 ≤ X by omega)
  have h3 := Int.mul_le_mul_of_nonneg_right hx.1 ht.1
  have h4 : -X * t = -(X * t) := Int.neg_mul _ _
  omega
def swN (O : List Int) (a b : Int) (m k : Nat) : Int := O.getD k 0 * (a * ((m : Int) - k) + b * k)
def swV (O : List Int) (a b : Int) (m k : Nat) : Int := satV (swN O a b m k / (256 * m))
/-- All that is reckoned stays within 64 bits. -/
theorem sw_in {O : List Int} {a b : Int} {m k : Nat} (ha : 0 ≤ a ∧ a ≤ 256) (hb : 0 ≤ b ∧ b ≤ 256) (hm : m ≤ 60) (hk : k < m) (hO : -32768 ≤ O.getD k 0 ∧ O.getD k 0 ≤ 32768) :
    IntKind.i64.wrap (O.getD k 0 * IntKind.i64.wrap (IntKind.i64.wrap (a * IntKind.i64.wrap ((m : Int) - k)) + IntKind.i64.wrap (b * k))) = swN O a b m k ∧ In64 (swN O a b m k) ∧ IntKind.i64.wrap (256 * (m : Int)) = 256 * (m : Int) := by
  have p1 := mul_pos_le ha (b := (m : Int) - k) (B := 60) (by omega)
  have p2 := mul_pos_le hb (b := (k : Int)) (B := 60) (by omega)
  have w1 : IntKind.i64.wrap ((m : Int) - k) = (m : Int) - k := wrap64 (by omega) (by omega)
  have w2 : IntKind.i64.wrap (a * ((m : Int) - k)) = a * ((m : Int) - k) := wrap64 (by omega) (by omega)
  have w3 : IntKind.i64.wrap (b * (k : Int)) = b * k := wrap64 (by omega) (by omega)
  have w4 : IntKind.i64.wrap (a * ((m : Int) - k) + b * k) = a * ((m : Int) - k) + b * k := wrap64 (by omega) (by omega)
  have p3 := mul_abs_le hO (t := a * ((m : Int) - k) + b * k) (T := 30720) (by omega)
  have h64 : In64 (swN O a b m k) := by unfold In64 swN; omega
  refine ⟨?_, h64, wrap64 (by omega) (by omega)⟩
  rw [w1, w2, w3, w4]
  unfold In64 at h64
  exact wrap64 h64.1 h64.2
theorem sw_hold (x : Int) : g18 (0, [.i x]) = some (0, [.i (satV x)]) := by
  simp -implicitDefEqProofs only [g18, g18_0, asI_i, asN_n, asL_l, asB_b, asX_x, asE_nil, Bool.cond_decide]
  unfold satV clampV
  by_cases c : 32767 < x
  · rw [if_pos c, if_neg (by omega), if_pos c]
  · rw [if_neg c]
    by_cases d : x < -32768
    · rw [if_pos d, if_pos (Or.inl d)]
    · rw [if_neg d, if_neg (by omega), if_neg c]
theorem swell_ok (m : Nat) (O : List Int) (a b : Int) (h1 : 1 ≤ m) (hm : m ≤ 60) (hl : O.length = m) (ha : 0 ≤ a ∧ a ≤ 256) (hb : 0 ≤ b ∧ b ≤ 256) (hO : ∀ k, k < m → -32768 ≤ O.getD k 0 ∧ O.getD k 0 ≤ 32768) :
    g19 (0, [.n m, .i a, .i b, .l O]) = some (1, [.n m, .l O, .l (tbl m (swV O a b m))]) := by
  have hL : L19_0 (0, [.n m, .i a, .i b, .n m, .i (m : Int), .i 0, .l O]) = some (2, [.n m, .l O, .l (tbl m (swV O a b m))]) := by
    refine loopL_run (m := 3) (f := f19_0) (fun k => if k = 0 then (0, [.n m, .i a, .i b, .n m, .i (m : Int), .i 0, .l O]) else (2, [.n m, .i a, .i b, .n k, .n m, .i (m : Int), .i (k : Int), .l O, .l (tbl k (swV O a b m))])) m (fun k hk => ?_) ?_ (by omega)
    · have w2 : IntKind.i64.wrap ((k : Int) + 1) = ((k + 1 : Nat) : Int) := wrap_nat (n := k + 1) (by omega)
      have hx := get_some (l := O) (i := k) (by omega)
      obtain ⟨v1, v2, v3⟩ := sw_in ha hb hm hk (hO k hk)
      have hf := floor_ok (swN O a b m k) (256 * (m : Int)) v2 (by omega)
      have hs := sat_ok (swN O a b m k / (256 * (m : Int)))
      have hn : tbl (k + 1) (swV O a b m) = tbl k (swV O a b m) ++ [swV O a b m k] := tbl_next _ _
      have hsv : satV (swN O a b m k / (256 * (m : Int))) = swV O a b m k := rfl
      rw [hsv] at hs
      rw [if_neg (Nat.succ_ne_zero k), hn]
      refine ⟨?_, by show 2 < 3; omega⟩
      generalize swV O a b m k = sv at *
      generalize swN O a b m k = V at *
      by_cases h0 : k = 0
      · subst h0
        rw [show ((0 : Nat) : Int) = 0 from rfl] at v1
        have w2 : IntKind.i64.wrap ((0 : Int) + 1) = ((0 + 1 : Nat) : Int) := rfl
        generalize O.getD 0 0 = x at *
        rw [if_pos rfl, show tbl 0 (swV O a b m) = [] from rfl, List.nil_append]
        simp -implicitDefEqProofs only [f19_0, f19_0_0, asI_i, asN_n, asL_l, asB_b, asX_x, asE_nil, Bool.cond_decide, if_pos (show (0 : Int) < (m : Int) by omega), if_pos (show (0 : Int) ≤ 0 ∧ (0 : Int) < (m : Int) by omega), Int.toNat_zero, hx, optK_some, v1, v3, hf, altK_0, hs, w2, Nat.zero_add]
      · have hlen : (tbl k (swV O a b m)).length = k := tbl_len _ _
        generalize tbl k (swV O a b m) = T at *
        generalize O.getD k 0 = x at *
        rw [if_neg h0]
        simp -implicitDefEqProofs only [f19_0, f19_0_2, asI_i, asN_n, asL_l, asB_b, asX_x, asE_nil, Bool.cond_decide, if_pos (show (k : Int) < (m : Int) by omega), if_pos (show (0 : Int) ≤ (k : Int) ∧ (k : Int) < (m : Int) by omega), Int.toNat_natCast, hx, optK_some, v1, v3, hf, altK_0, hs, w2, if_pos (show (k + 1) * 8 ≤ 70368744177664 by omega), if_pos (show T.length = k * 1 by omega)]
    · rw [if_neg (show ¬ m = 0 by omega)]
      simp -implicitDefEqProofs only [f19_0, f19_0_2, asI_i, asN_n, asL_l, asB_b, asX_x, asE_nil, Bool.cond_decide, if_neg (Int.lt_irrefl _)]
  simp -implicitDefEqProofs only [g19, g19_0, asI_i, asN_n, asL_l, asB_b, asX_x, asE_nil, Bool.cond_decide, hL, altK_2]
/-! ### The law's own loops -/

theorem max_2 (N : Nat) (W : List NC) (a b : Int) (hW : okW W N) : L6_0 (2, [.n N, .i a, .i b, .i 0, .i 0, .x W]) = some (2, [.n N, .i a, .i b, .i (mxN W N : Nat), .x W]) := by
  obtain ⟨h1, h2, h3, h4⟩ := hW
  refine loopL_run (m := 4) (f := f6_0) (fun k => (2, [.n N, .i a, .i b, .i (mxN W k : Nat), .i (k : Int), .x W])) N (fun k hk => ⟨?_, by show 2 < 4; omega⟩) ?_ (by omega)
  · have hq := q_get (Q := W) (k := k) (by omega)
    have hrw : (W.getD k ⟨0, []⟩).l = rw_ W k := rfl
    have hqL : (rw_ W k).length = qL W k := rfl
    have w2 : IntKind.i64.wrap ((k : Int) + 1) = ((k + 1 : Nat) : Int) := wrap_nat (n := k + 1) (by omega)
    have hi : (0 : Int) ≤ (k : Int) ∧ (k : Int) < N := by omega
    have e : mxN W (k + 1) = if mxN W k < qL W k then qL W k else mxN W k := rfl
    show f6_0 (2, [.n N, .i a, .i b, .i (mxN W k : Nat), .i (k : Int), .x W]) = some (2, [.n N, .i a, .i b, .i (mxN W (k + 1) : Nat), .i ((k + 1 : Nat) : Int), .x W])
    rw [e]
    by_cases h : mxN W k < qL W k
    · rw [if_pos h]
      simp -implicitDefEqProofs only [f6_0, f6_0_2, asI_i, asN_n, asL_l, asB_b, asX_x, asE_nil, Bool.cond_decide, if_pos hi.2, if_pos hi, Int.toNat_natCast, hq, optK_some, hrw, hqL, if_pos (show ((mxN W k : Nat) : Int) < (qL W k : Int) by omega), w2]
    · rw [if_neg h]
      simp -implicitDefEqProofs only [f6_0, f6_0_2, asI_i, asN_n, asL_l, asB_b, asX_x, asE_nil, Bool.cond_decide, if_pos hi.2, if_pos hi, Int.toNat_natCast, hq, optK_some, hrw, hqL, if_neg (show ¬ ((mxN W k : Nat) : Int) < (qL W k : Int) by omega), w2]
  · simp -implicitDefEqProofs only [f6_0, f6_0_2, asI_i, asN_n, asL_l, asB_b, asX_x, asE_nil, Bool.cond_decide, if_neg (Int.lt_irrefl _)]
theorem max_3 (N : Nat) (W : List NC) (a b : Int) (q : Nat) (T : List Int) (hW : okW W N) : L6_0 (3, [.n N, .i a, .i b, .n q, .i 0, .i 0, .x W, .l T]) = some (3, [.n N, .i a, .i b, .n q, .i (mxN W N : Nat), .x W, .l T]) := by
  obtain ⟨h1, h2, h3, h4⟩ := hW
  refine loopL_run (m := 4) (f := f6_0) (fun k => (3, [.n N, .i a, .i b, .n q, .i (mxN W k : Nat), .i (k : Int), .x W, .l T])) N (fun k hk => ⟨?_, by show 3 < 4; omega⟩) ?_ (by omega)
  · have hq := q_get (Q := W) (k := k) (by omega)
    have hrw : (W.getD k ⟨0, []⟩).l = rw_ W k := rfl
    have hqL : (rw_ W k).length = qL W k := rfl
    have w2 : IntKind.i64.wrap ((k : Int) + 1) = ((k + 1 : Nat) : Int) := wrap_nat (n := k + 1) (by omega)
    have hi : (0 : Int) ≤ (k : Int) ∧ (k : Int) < N := by omega
    have e : mxN W (k + 1) = if mxN W k < qL W k then qL W k else mxN W k := rfl
    show f6_0 (3, [.n N, .i a, .i b, .n q, .i (mxN W k : Nat), .i (k : Int), .x W, .l T]) = some (3, [.n N, .i a, .i b, .n q, .i (mxN W (k + 1) : Nat), .i ((k + 1 : Nat) : Int), .x W, .l T])
    rw [e]
    by_cases h : mxN W k < qL W k
    · rw [if_pos h]
      simp -implicitDefEqProofs only [f6_0, f6_0_3, asI_i, asN_n, asL_l, asB_b, asX_x, asE_nil, Bool.cond_decide, if_pos hi.2, if_pos hi, Int.toNat_natCast, hq, optK_some, hrw, hqL, if_pos (show ((mxN W k : Nat) : Int) < (qL W k : Int) by omega), w2]
    · rw [if_neg h]
      simp -implicitDefEqProofs only [f6_0, f6_0_3, asI_i, asN_n, asL_l, asB_b, asX_x, asE_nil, Bool.cond_decide, if_pos hi.2, if_pos hi, Int.toNat_natCast, hq, optK_some, hrw, hqL, if_neg (show ¬ ((mxN W k : Nat) : Int) < (qL W k : Int) by omega), w2]
  · simp -implicitDefEqProofs only [f6_0, f6_0_3, asI_i, asN_n, asL_l, asB_b, asX_x, asE_nil, Bool.cond_decide, if_neg (Int.lt_irrefl _)]
theorem sums_3 (N : Nat) (W : List NC) (a b M : Int) (c q : Nat) (T : List Int) (hW : okW W N) : L6_1 (3, [.n N, .i a, .i b, .n q, .i M, .i (c : Int), .i 0, .i 0, .x W, .l T]) = some (3, [.n N, .i a, .i b, .n q, .i M, .i (c : Int), .i (tot W c N), .x W, .l T]) := by
  refine loopL_run (m := 4) (f := f6_1) (fun k => (3, [.n N, .i a, .i b, .n q, .i M, .i (c : Int), .i (tot W c k), .i (k : Int), .x W, .l T])) N (fun k hk => ⟨?_, by show 3 < 4; omega⟩) ?_ (by have := hW.2.1; omega)
  · have ht := tot_in hW c k (by omega)
    obtain ⟨h1, h2, h3, h4⟩ := hW
    have hb := h4 k c hk
    have hq := q_get (Q := W) (k := k) (by omega)
    have hrw : (W.getD k ⟨0, []⟩).l = rw_ W k := rfl
    have hqL : (rw_ W k).length = qL W k := rfl
    have w2 : IntKind.i64.wrap ((k : Int) + 1) = ((k + 1 : Nat) : Int) := wrap_nat (n := k + 1) (by omega)
    have hi : (0 : Int) ≤ (k : Int) ∧ (k : Int) < N := by omega
    have e : tot W c (k + 1) = if c < qL W k then tot W c k + (rw_ W k).getD c 0 else tot W c k := rfl
    show f6_1 (3, [.n N, .i a, .i b, .n q, .i M, .i (c : Int), .i (tot W c k), .i (k : Int), .x W, .l T]) = some (3, [.n N, .i a, .i b, .n q, .i M, .i (c : Int), .i (tot W c (k + 1)), .i ((k + 1 : Nat) : Int), .x W, .l T])
    rw [e]
    by_cases h : c < qL W k
    · have hx := get_some (l := rw_ W k) (i := c) h
      have w3 : IntKind.i64.wrap (tot W c k + (rw_ W k).getD c 0) = tot W c k + (rw_ W k).getD c 0 := wrap64 (by omega) (by omega)
      have hci : (0 : Int) ≤ (c : Int) ∧ (c : Int) < (qL W k : Int) := by omega
      rw [if_pos h]
      generalize (rw_ W k).getD c 0 = x at *
      simp -implicitDefEqProofs only [f6_1, f6_1_3, asI_i, asN_n, asL_l, asB_b, asX_x, asE_nil, Bool.cond_decide, if_pos hi.2, if_pos hi, Int.toNat_natCast, hq, optK_some, hrw, hqL, if_pos hci.2, if_pos hci, hx, w3, w2]
    · rw [if_neg h]
      simp -implicitDefEqProofs only [f6_1, f6_1_3, asI_i, asN_n, asL_l, asB_b, asX_x, asE_nil, Bool.cond_decide, if_pos hi.2, if_pos hi, Int.toNat_natCast, hq, optK_some, hrw, hqL, if_neg (show ¬ (c : Int) < (qL W k : Int) by omega), w2]
  · simp -implicitDefEqProofs only [f6_1, f6_1_3, asI_i, asN_n, asL_l, asB_b, asX_x, asE_nil, Bool.cond_decide, if_neg (Int.lt_irrefl _)]
theorem check_3 (N m : Nat) (W : List NC) (a b : Int) (hm : m ≤ 60) (hW : okW W N) : L6_2 (3, [.n N, .i a, .i b, .n m, .i (m : Int), .i 0, .x W, .l (outL W N m)]) = some (3, [.i a, .i b, .n m, .i (m : Int), .x W, .l (outL W N m)]) := by
  refine loopL_run (m := 4) (f := f6_2) (fun c => (3, [.n N, .i a, .i b, .n m, .i (m : Int), .i (c : Int), .x W, .l (outL W N m)])) m (fun c hc => ⟨?_, by show 3 < 4; omega⟩) ?_ (by omega)
  · have hs := sums_3 N W a b (m : Int) c m (outL W N m) hW
    have hlen : (outL W N m).length = m := tbl_len _ _
    have hx : (outL W N m)[c]? = some (satV (tot W c N)) := tbl_get hc
    have hh := sw_hold (tot W c N)
    have w2 : IntKind.i64.wrap ((c : Int) + 1) = ((c + 1 : Nat) : Int) := wrap_nat (n := c + 1) (by omega)
    generalize outL W N m = O at *
    generalize satV (tot W c N) = sv at *
    simp -implicitDefEqProofs only [f6_2, f6_2_3, asI_i, asN_n, asL_l, asB_b, asX_x, asE_nil, Bool.cond_decide, if_pos (show (c : Int) < (m : Int) by omega), hs, altK_3, if_pos (show (0 : Int) ≤ (c : Int) ∧ (c : Int) < (m : Int) by omega), Int.toNat_natCast, hx, optK_some, hh, altK_0, ne_eq, not_true_eq_false, if_false, w2]
  · simp -implicitDefEqProofs only [f6_2, f6_2_3, asI_i, asN_n, asL_l, asB_b, asX_x, asE_nil, Bool.cond_decide, if_neg (Int.lt_irrefl _)]
theorem check_2 (N : Nat) (W : List NC) (a b : Int) : L6_2 (2, [.n N, .i a, .i b, .i 0, .i 0, .x W]) = some (2, [.i a, .i b, .i 0, .x W]) := loopL_last (m := 4) (f := f6_2) (j := 2) (by
  simp -implicitDefEqProofs only [f6_2, f6_2_2, asI_i, asN_n, asL_l, asB_b, asX_x, asE_nil, Bool.cond_decide, if_neg (Int.lt_irrefl _)])
theorem last_3 (W : List NC) (a b : Int) : L6_3 (3, [.i a, .i b, .i 0, .i 0, .x W]) = some (4, [.x W]) := loopL_last (m := 6) (f := f6_3) (j := 4) (by
  simp -implicitDefEqProofs only [f6_3, f6_3_3, asI_i, asN_n, asL_l, asB_b, asX_x, asE_nil, Bool.cond_decide, if_neg (Int.lt_irrefl _)])
theorem last_5 (m : Nat) (W : List NC) (O : List Int) (a b : Int) (hm : m ≤ 60) (hl : O.length = m) (ha : 0 ≤ a ∧ a ≤ 256) (hb : 0 ≤ b ∧ b ≤ 256) (hO : ∀ k, k < m → -32768 ≤ O.getD k 0 ∧ O.getD k 0 ≤ 32768) :
    L6_3 (5, [.i a, .i b, .n m, .i (m : Int), .n m, .i 0, .x W, .l O, .l (tbl m (swV O a b m))]) = some (6, [.x W, .l O, .l (tbl m (swV O a b m))]) := by
  refine loopL_run (m := 6) (f := f6_3) (fun k => (5, [.i a, .i b, .n m, .i (m : Int), .n m, .i (k : Int), .x W, .l O, .l (tbl m (swV O a b m))])) m (fun k hk => ⟨?_, by show 5 < 6; omega⟩) ?_ (by omega)
  · have w2 : IntKind.i64.wrap ((k : Int) + 1) = ((k + 1 : Nat) : Int) := wrap_nat (n := k + 1) (by omega)
    have hx := get_some (l := O) (i := k) (by omega)
    obtain ⟨v1, v2, v3⟩ := sw_in ha hb hm hk (hO k hk)
    have hy : (tbl m (swV O a b m))[k]? = some (swV O a b m k) := tbl_get hk
    have hq := tdiv_in v2 (b := 256 * (m : Int)) (by omega)
    have e := tdiv_floor (swN O a b m k) (b := 256 * (m : Int)) (by omega)
    have hsv : satV (swN O a b m k / (256 * (m : Int))) = swV O a b m k := rfl
    have hh := sw_hold (swN O a b m k / (256 * (m : Int)))
    rw [hsv] at hh
    unfold In64 at hq
    have w1 : IntKind.i64.wrap (Int.tdiv (swN O a b m k) (256 * (m : Int))) = Int.tdiv (swN O a b m k) (256 * (m : Int)) := wrap64 (by omega) (by omega)
    generalize tbl m (swV O a b m) = Y at *
    generalize swV O a b m k = sv at *
    generalize swN O a b m k = V at *
    generalize O.getD k 0 = x at *
    by_cases h : Int.tmod V (256 * (m : Int)) < 0
    · rw [if_pos h] at e
      have w4 : IntKind.i64.wrap (Int.tdiv V (256 * (m : Int)) - 1) = V / (256 * (m : Int)) := by rw [← e]; exact wrap64 (by omega) (by omega)
      simp -implicitDefEqProofs only [f6_3, f6_3_5, asI_i, asN_n, asL_l, asB_b, asX_x, asE_nil, Bool.cond_decide, if_pos (show (k : Int) < (m : Int) by omega), if_pos (show (0 : Int) ≤ (k : Int) ∧ (k : Int) < (m : Int) by omega), Int.toNat_natCast, hx, optK_some, v1, v3, if_neg (show ¬ 256 * (m : Int) = 0 by omega), if_pos h, w1, w4, hy, hh, altK_0, ne_eq, not_true_eq_false, if_false, w2]
    · rw [if_neg h] at e
      rw [← e] at hh
      simp -implicitDefEqProofs only [f6_3, f6_3_5, asI_i, asN_n, asL_l, asB_b, asX_x, asE_nil, Bool.cond_decide, if_pos (show (k : Int) < (m : Int) by omega), if_pos (show (0 : Int) ≤ (k : Int) ∧ (k : Int) < (m : Int) by omega), Int.toNat_natCast, hx, optK_some, v1, v3, if_neg (show ¬ 256 * (m : Int) = 0 by omega), if_neg h, w1, hy, hh, altK_0, ne_eq, not_true_eq_false, if_false, w2]
  · simp -implicitDefEqProofs only [f6_3, f6_3_5, asI_i, asN_n, asL_l, asB_b, asX_x, asE_nil, Bool.cond_decide, if_neg (Int.lt_irrefl _)]
/-- The law, behind its reading of the lists. -/
theorem core (n N : Nat) (Q : List NC) (a b : Int) (hn : Q.length = n) (hNn : N = min 10 n) : g6 (0, [.n n, .x Q, .i a, .i b]) = some (0, [.b true]) := by
  have hfew := few_ok n N Q hn hNn
  by_cases hN0 : N = 0
  · rw [if_pos hN0] at hfew
    have a1 : g17 (1, []) = some (1, []) := by kernel_rfl
    have a2 : L6_0 (0, [.i a, .i b, .i 0, .i 0]) = some (0, [.i a, .i b, .i 0]) := by kernel_rfl
    have a3 : L6_2 (0, [.i a, .i b, .i 0, .i 0]) = some (0, [.i a, .i b, .i 0]) := by kernel_rfl
    have a4 : g19 (1, [.i a, .i b]) = some (2, []) := by kernel_rfl
    have a5 : L6_3 (0, [.i a, .i b, .i 0, .i 0]) = some (0, []) := by kernel_rfl
    simp -implicitDefEqProofs only [g6, g6_0, asI_i, asN_n, asL_l, asB_b, asX_x, asE_nil, Bool.cond_decide, ↓altK_of hfew, ↓altK_of a1, ↓altK_of a2, ↓altK_of a3, ↓altK_of a4, ↓altK_of a5, altK_0, altK_1, altK_2, awakeL_ok, ne_eq, not_true_eq_false, if_false]
    repeat' split
    all_goals rfl
  · rw [if_neg hN0] at hfew
    have hW : okW (fw Q N) N := by
      refine ⟨fw_len Q N, by omega, fun k hk => ?_, fun k c hk => ?_⟩
      · show (rw_ (fw Q N) k).length ≤ 60
        rw [fw_rw hk, cut_len]
        omega
      · rw [fw_rw hk]
        exact cut_in Q k c
    have hadd := oadd_ok N (fw Q N) hW
    have hM := mxN_le (fw Q N) 60 N hW.2.2.1
    have m2 := max_2 N (fw Q N) a b hW
    have m3 := fun q T => max_3 N (fw Q N) a b q T hW
    have c2 := check_2 N (fw Q N) a b
    have c3 := fun m hm => check_3 N m (fw Q N) a b hm hW
    have hOl : (outL (fw Q N) N (mxN (fw Q N) N)).length = mxN (fw Q N) N := tbl_len _ _
    have hOb : ∀ k, k < mxN (fw Q N) N → -32768 ≤ (outL (fw Q N) N (mxN (fw Q N) N)).getD k 0 ∧ (outL (fw Q N) N (mxN (fw Q N) N)).getD k 0 ≤ 32768 := fun k hk => by
      unfold outL
      rw [tbl_getD hk]
      have := satV_in (tot (fw Q N) k N)
      omega
    have l3 := last_3 (fw Q N) a b
    have a4 : g19 (1, [.i a, .i b]) = some (2, []) := by kernel_rfl
    generalize fw Q N = W at *
    by_cases h0 : mxN W N = 0
    · rw [if_pos h0] at hadd
      rw [h0, show ((0 : Nat) : Int) = 0 from rfl] at m2
      simp -implicitDefEqProofs only [g6, g6_0, asI_i, asN_n, asL_l, asB_b, asX_x, asE_nil, Bool.cond_decide, ↓altK_of hfew, ↓altK_of hadd, ↓altK_of m2, ↓altK_of c2, ↓altK_of a4, ↓altK_of l3, altK_0, altK_1, altK_2, altK_4, awakeL_ok, ne_eq, not_true_eq_false, if_false]
      repeat' split
      all_goals rfl
    · rw [if_neg h0] at hadd
      have m3 := m3 (mxN W N) (outL W N (mxN W N))
      have c3 := c3 (mxN W N) hM
      have hsw := swell_ok (mxN W N) (outL W N (mxN W N)) a b (by omega) hM hOl
      have l5 := last_5 (mxN W N) W (outL W N (mxN W N)) a b hM hOl
      generalize outL W N (mxN W N) = O at *
      generalize mxN W N = m at *
      simp -implicitDefEqProofs only [g6, g6_0, asI_i, asN_n, asL_l, asB_b, asX_x, asE_nil, Bool.cond_decide, ↓altK_of hfew, ↓altK_of hadd, ↓altK_of m3, ↓altK_of c3, altK_0, altK_1, altK_2, altK_3, awakeL_ok, ne_eq, not_true_eq_false, if_false]
      by_cases d1 : a < 0
      · rw [if_pos d1]
      rw [if_neg d1]
      by_cases d2 : 256 < a
      · rw [if_pos d2]
      rw [if_neg d2]
      by_cases d3 : b < 0
      · rw [if_pos d3]
      rw [if_neg d3]
      by_cases d4 : 256 < b
      · rw [if_pos d4]
      rw [if_neg d4]
      have hsw := hsw (by omega) (by omega) hOb
      have l5 := l5 (by omega) (by omega) hOb
      simp -implicitDefEqProofs only [asI_i, asN_n, asL_l, asB_b, asX_x, asE_nil, Bool.cond_decide, ↓altK_of hsw, ↓altK_of l5, altK_1, altK_6, awakeL_ok, altK_0, ne_eq, not_true_eq_false, if_false]
theorem ev_sums (Q : List NC) (n : Nat) (a b : Int) (hn : Q.length = n) : ∃ d, evF tab d 6 [.ro (.nest [.si .i64 1] Q) n 1, .int .i64 a, .int .i64 b] [] = some (.bool true, [], []) := by
  exact ⟨_, (ok6 0).ret (i := 0) (ls := [.n n, .x Q, .i a, .i b]) (j := 0) (r := [.b true]) (core n (min 10 n) Q a b hn rfl) rfl rfl rfl rfl⟩
end Go.Proofs.Ytgmlibigknnbmaa
