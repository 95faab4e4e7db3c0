/-
  What it is to lay an item, by the writer and by the document. Conditions: none.
-/
import Derived.Test.YtkahlinndcnjiaaWrPX
namespace Go.Proofs.Ytkahlinndcnjiaa
open Go Go.Sx X
set_option maxRecDepth 100000
set_option linter.unusedVariables false
attribute [local simp] asI_i asB_b asL_l asN_n asS_s asE_nil altK_none altK_0 altK_1 altK_2 altK_3 optK_some optK_none Bool.cond_decide Bool.cond_not Int.toNat_natCast
set_option linter.unusedSimpArgs false
theorem power_ok (k : Nat) (hk : k ≤ 62) : g24 (0, [.i k]) = some (0, [.i (pw k)]) := by
  have hl : L24_0 (0, [.i k, .i 1, .i 0]) = some (0, [.i (pw k)]) := by
    refine loopL_run (m := 1) (f := f24_0) (fun j => (0, [.i k, .i (pw j), .i j])) k (fun j hj => ⟨?_, by show 0 < 1; omega⟩) ?_ (by omega)
    · have h1 : IntKind.i64.wrap (2 * pw j) = pw (j + 1) := by
        have := pw_62 (k := j + 1) (by omega)
        have := pw_pos (j + 1)
        rw [← pw_succ]; exact wrap64 (by omega) (by omega)
      have w2 : IntKind.i64.wrap ((j : Int) + 1) = ((j + 1 : Nat) : Int) := wrap_nat (n := j + 1) (by omega)
      simp -implicitDefEqProofs only [f24_0, f24_0_0, asI_i, asE_nil, Bool.cond_decide, if_pos (show (j : Int) < k by omega), h1, w2]
    · simp -implicitDefEqProofs only [f24_0, f24_0_0, asI_i, asE_nil, Bool.cond_decide, if_neg (Int.lt_irrefl _)]
  simp -implicitDefEqProofs only [g24, g24_0, asI_i, asE_nil, hl, altK_0]
/-- Does a number fit so many bits, with its sign? -/
def fitP (V : Int) (k : Nat) : Bool := if k = 0 then decide (V = 0) else decide (-pw (k - 1) ≤ V ∧ V < pw (k - 1))
theorem pw_56 {k : Nat} (h : k ≤ 56) : pw k ≤ 72057594037927936 := by
  have := pw_le h
  have e : pw 56 = 72057594037927936 := rfl
  omega
theorem Fits_ok (V : Int) (k : Nat) (hk : k ≤ 57) : g8 (0, [.i V, .i k]) = some (0, [.b (fitP V k)]) := by
  unfold fitP
  by_cases h0 : k = 0
  · rw [if_pos h0]
    simp -implicitDefEqProofs only [g8, g8_0, asI_i, asE_nil, Bool.cond_decide, if_pos (show (k : Int) ≤ 0 by omega)]
  · rw [if_neg h0]
    have hp := pw_pos (k - 1)
    have hq := pw_56 (k := k - 1) (by omega)
    have w1 : IntKind.i64.wrap ((k : Int) - 1) = ((k - 1 : Nat) : Int) := by rw [wrap64 (by omega) (by omega)]; omega
    have s1 := shl_pw (k := k - 1) (by omega)
    have s2 : shlI .i64 (-1) ((k - 1 : Nat) : Int) = -pw (k - 1) := by
      unfold shlI
      rw [show min (Int.toNat ((k - 1 : Nat) : Int)) IntKind.i64.bits = k - 1 by show min (k - 1) 64 = k - 1; omega, pw_int, show (-1) * pw (k - 1) = -pw (k - 1) by omega]
      exact wrap64 (by omega) (by omega)
    by_cases c : -pw (k - 1) ≤ V
    · simp -implicitDefEqProofs only [g8, g8_0, asI_i, asE_nil, Bool.cond_decide, if_neg (show ¬ (k : Int) ≤ 0 by omega), if_neg (show ¬ (63 : Int) < k by omega), w1, if_neg (show ¬ ((k - 1 : Nat) : Int) < 0 by omega), s1, s2, c, true_and, if_true]
    · simp -implicitDefEqProofs only [g8, g8_0, asI_i, asE_nil, Bool.cond_decide, if_neg (show ¬ (k : Int) ≤ 0 by omega), if_neg (show ¬ (63 : Int) < k by omega), w1, if_neg (show ¬ ((k - 1 : Nat) : Int) < 0 by omega), s1, s2, c, false_and, decide_false, if_false]
theorem fits_ok (V : Int) (k : Nat) (hk : k ≤ 57) : g9 (0, [.i V, .i k]) = some (0, [.b (fitP V k)]) := by
  unfold fitP
  by_cases h0 : k = 0
  · rw [if_pos h0]
    simp -implicitDefEqProofs only [g9, g9_0, asI_i, asE_nil, Bool.cond_decide, if_pos (show (k : Int) ≤ 0 by omega)]
  · rw [if_neg h0]
    have hp := pw_pos (k - 1)
    have hq := pw_56 (k := k - 1) (by omega)
    have w1 : IntKind.i64.wrap ((k : Int) - 1) = ((k - 1 : Nat) : Int) := by rw [wrap64 (by omega) (by omega)]; omega
    have hpo := power_ok (k - 1) (by omega)
    have s2 : IntKind.i64.wrap (0 - pw (k - 1)) = -pw (k - 1) := by rw [wrap64 (by omega) (by omega)]; omega
    have s1 : IntKind.i64.wrap (pw (k - 1) - 1) = pw (k - 1) - 1 := wrap64 (by omega) (by omega)
    have e : (V ≤ pw (k - 1) - 1) = (V < pw (k - 1)) := propext ⟨fun _ => by omega, fun _ => by omega⟩
    by_cases c : -pw (k - 1) ≤ V
    · simp -implicitDefEqProofs only [g9, g9_0, asI_i, asE_nil, Bool.cond_decide, if_neg (show ¬ (k : Int) ≤ 0 by omega), if_neg (show ¬ (63 : Int) < k by omega), w1, hpo, altK_0, s1, s2, c, true_and, if_true, e]
    · simp -implicitDefEqProofs only [g9, g9_0, asI_i, asE_nil, Bool.cond_decide, if_neg (show ¬ (k : Int) ≤ 0 by omega), if_neg (show ¬ (63 : Int) < k by omega), w1, hpo, altK_0, s2, c, false_and, decide_false, if_false]
/-- Has an item bits? And which number they are. -/
def okI (sg : Bool) (V K : Int) : Bool := if K < 0 then false else if 57 < K then false else if sg = true then fitP V K.toNat else decide (0 ≤ V ∧ V < pw K.toNat)
def vlI (V K : Int) : Int := if V < 0 then V + pw K.toNat else V
theorem okI_K {sg : Bool} {V K : Int} (h : okI sg V K = true) : 0 ≤ K ∧ K ≤ 57 := by
  unfold okI at h
  split at h
  · cases h
  · split at h
    · cases h
    · omega
theorem okI_val {sg : Bool} {V K : Int} (h : okI sg V K = true) : 0 ≤ vlI V K ∧ vlI V K < pw K.toNat := by
  have hK := okI_K h
  unfold okI at h
  rw [if_neg (by omega), if_neg (by omega)] at h
  unfold vlI
  cases sg with
  | false =>
    rw [if_neg (by decide), decide_eq_true_eq] at h
    rw [if_neg (by omega)]
    exact h
  | true =>
    rw [if_pos rfl] at h
    unfold fitP at h
    by_cases h0 : K.toNat = 0
    · rw [if_pos h0, decide_eq_true_eq] at h
      rw [if_neg (by omega), h0]
      exact ⟨by omega, by rw [h, pw_0]; omega⟩
    · rw [if_neg h0, decide_eq_true_eq] at h
      have e := pw_succ (K.toNat - 1)
      rw [show K.toNat - 1 + 1 = K.toNat by omega] at e
      have hp := pw_pos (K.toNat - 1)
      by_cases c : V < 0
      · rw [if_pos c]; omega
      · rw [if_neg c]; omega
/-! ### Put, of a writer that has laid bits -/
def WL (A : List Int) (e : Int) : List Leaf := [.n ((A.length + 7) / 8), .i A.length, .i e, .l (packL A ((A.length + 7) / 8))]
theorem put0 {v : Int} (h0 : 0 ≤ v) (h1 : v ≤ 18446744073709551615) (e K : Int) :
    g18 (0, [.i v, .i K, .i 0, .i e]) = some (if (wput [] e K v).1.length = 0 then (0, [.i 0, .i (wput [] e K v).2]) else (1, WL (wput [] e K v).1 (wput [] e K v).2)) := by
  have h := put_0 K v e
  have w := wput_eq h0 h1 (A := []) (fun x hx => by cases hx) e K
  rw [show wr [] e = ([], 0, e) from rfl] at w
  rw [h, w]
  generalize wput [] e K v = q
  obtain ⟨A', e'⟩ := q
  show some (if (packL A' ((A'.length + 7) / 8)).length = 0 then (0, [.i ((A'.length : Nat) : Int), .i e']) else (1, [.n (packL A' ((A'.length + 7) / 8)).length, .i ((A'.length : Nat) : Int), .i e', .l (packL A' ((A'.length + 7) / 8))])) = some (if A'.length = 0 then (0, [.i 0, .i e']) else (1, WL A' e'))
  rw [pack_len]
  by_cases c : A'.length = 0
  · rw [if_pos c, if_pos (by omega), c]; rfl
  · rw [if_neg c, if_neg (by omega)]; rfl
theorem put1 {v : Int} (h0 : 0 ≤ v) (h1 : v ≤ 18446744073709551615) {A : List Int} (hA : B01 A) (hl : A.length ≤ 90000) (e K : Int) : ∃ j, (j = 1 ∨ j = 2) ∧
    g18 (1, .i v :: .i K :: WL A e) = some (j, WL (wput A e K v).1 (wput A e K v).2) := by
  obtain ⟨j, hj, h⟩ := put_1 K v (wr A e) (wr_ok0 hl)
  have w := wput_eq h0 h1 hA e K
  refine ⟨j, hj, ?_⟩
  rw [w] at h
  generalize wput A e K v = q at *
  obtain ⟨A', e'⟩ := q
  have h' : g18 (1, [.i v, .i K, .n (packL A ((A.length + 7) / 8)).length, .i ((A.length : Nat) : Int), .i e, .l (packL A ((A.length + 7) / 8))]) = some (j, [.n (packL A' ((A'.length + 7) / 8)).length, .i ((A'.length : Nat) : Int), .i e', .l (packL A' ((A'.length + 7) / 8))]) := h
  rw [pack_len, pack_len] at h'
  exact h'
/-! ### An item -/
def wlay (A : List Int) (e : Int) (sg : Bool) (V K : Int) : List Int × Int := if e ≠ 0 then (A, e) else if okI sg V K = true then (A ++ topL (vlI V K) K.toNat K.toNat, 0) else (A, 5)
theorem wlay_01 {A : List Int} (hA : B01 A) (e : Int) (sg : Bool) (V K : Int) : B01 (wlay A e sg V K).1 := by
  unfold wlay
  (repeat' split)
  · exact hA
  · exact b01_app hA (topL_01 _ _ _)
  · exact hA
theorem pw_add (a b : Nat) : pw (a + b) = pw a * pw b := by
  unfold pw
  rw [Nat.pow_add]
  simp
theorem wu_val {V : Int} (h1 : -9223372036854775808 ≤ V) (h2 : V ≤ 9223372036854775807) : IntKind.u64.wrap V = if V < 0 then V + 18446744073709551616 else V := by
  rw [show IntKind.u64.wrap V = V % 18446744073709551616 from rfl]
  split <;> omega
theorem and_val {V : Int} (h1 : -9223372036854775808 ≤ V) (h2 : V ≤ 9223372036854775807) {k : Nat} (hk : k ≤ 57) (hf : fitP V k = true) :
    bAnd .u64 (IntKind.u64.wrap V) (IntKind.u64.wrap (shlI .u64 1 (k : Int) - 1)) = vlI V k := by
  have hp := pw_pos k
  have hq := pw_57 hk
  have s1 : shlI .u64 1 (k : Int) = pw k := by
    unfold shlI
    rw [show min (Int.toNat (k : Int)) IntKind.u64.bits = k by show min k 64 = k; omega, pw_int, Int.one_mul]
    exact wrapU (by omega) (by omega)
  have hw := wu_val h1 h2
  rw [s1, wrapU (x := pw k - 1) (by omega) (by omega), andpw (by rw [hw]; split <;> omega) (by rw [hw]; split <;> omega) hk, hw]
  have hok : okI true V k = true := by unfold okI; rw [if_neg (by omega), if_neg (by omega), if_pos rfl, Int.toNat_natCast]; exact hf
  have hv := okI_val hok
  rw [Int.toNat_natCast] at hv
  unfold vlI at *
  rw [Int.toNat_natCast] at *
  by_cases c : V < 0
  · rw [if_pos c] at hv ⊢
    rw [if_pos c]
    have e : (18446744073709551616 : Int) = pw k * pw (64 - k) := by rw [← pw_add, show k + (64 - k) = 64 by omega]; rfl
    have e2 : pw k * pw (64 - k) = pw k + pw k * (pw (64 - k) - 1) := by rw [Int.mul_sub, Int.mul_one]; omega
    rw [e, e2, ← Int.add_assoc, Int.add_mul_emod_self_left]
    exact Int.emod_eq_of_lt hv.1 hv.2
  · rw [if_neg c] at hv ⊢
    rw [if_neg c]
    exact Int.emod_eq_of_lt hv.1 hv.2
theorem wput_lay_sg {A : List Int} {e V K : Int} (h : okI true V K = true) : wput A e K (vlI V K) = wlay A e true V K := by
  have hK := okI_K h
  have hv := okI_val h
  unfold wput wlay
  by_cases c : e ≠ 0
  · rw [if_pos c, if_pos c]
  · rw [if_neg c, if_neg c, if_pos h, if_neg]
    rintro (q | q | q) <;> omega
theorem wput_lay_un {A : List Int} {e V K : Int} (h1 : -9223372036854775808 ≤ V) (h2 : V ≤ 9223372036854775807) : wput A e K (IntKind.u64.wrap V) = wlay A e false V K := by
  have hw := wu_val h1 h2
  unfold wput wlay
  by_cases c : e ≠ 0
  · rw [if_pos c, if_pos c]
  · rw [if_neg c, if_neg c, hw]
    unfold okI vlI
    by_cases k1 : K < 0
    · rw [if_pos (Or.inl k1), if_pos k1, if_neg Bool.false_ne_true]
    · by_cases k2 : 57 < K
      · rw [if_pos (Or.inr (Or.inl k2)), if_neg k1, if_pos k2, if_neg Bool.false_ne_true]
      · rw [if_neg k1, if_neg k2]
        simp only [Bool.false_eq_true, if_false]
        have hq := pw_57 (k := K.toNat) (by omega)
        by_cases v1 : V < 0
        · rw [if_pos v1, if_pos (Or.inr (Or.inr (by omega))), if_neg (by rw [decide_eq_true_eq]; omega)]
        · rw [if_neg v1]
          by_cases v2 : V < pw K.toNat
          · rw [if_neg (by rintro (q | q | q) <;> omega), if_pos (by rw [decide_eq_true_eq]; omega), if_neg v1]
          · rw [if_pos (Or.inr (Or.inr (by omega))), if_neg (by rw [decide_eq_true_eq]; omega)]
end Go.Proofs.Ytkahlinndcnjiaa
