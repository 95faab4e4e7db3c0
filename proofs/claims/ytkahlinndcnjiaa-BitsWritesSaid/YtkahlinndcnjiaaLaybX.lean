/-
  What it is to lay an item, bytes of bits, and the document's bytes. Conditions: none.
-/
import Derived.Test.YtkahlinndcnjiaaLayX
namespace Go.Proofs.Ytkahlinndcnjiaa
open Go Go.Sx X
set_option maxRecDepth 100000
set_option linter.unusedVariables false
attribute [local simp] asI_i asB_b asL_l asN_n asS_s asE_nil altK_none altK_0 altK_1 altK_2 altK_3 optK_some optK_none Bool.cond_decide Bool.cond_not Int.toNat_natCast
set_option linter.unusedSimpArgs false
theorem law_bv {v : Int} (h0 : 0 ≤ v) (h1 : v ≤ 9223372036854775807) (t : Nat) : (if Int.tmod (IntKind.i64.wrap (Int.tdiv v (pw t))) 2 = 1 then (1 : Int) else 0) = bv v t := by
  rw [Int.tdiv_eq_ediv_of_nonneg h0]
  have hp := pw_pos t
  have h2 : 0 ≤ v / pw t := Int.ediv_nonneg h0 (by omega)
  have h3 : v / pw t ≤ v := Int.ediv_le_self _ h0
  rw [wrap64 (by omega) (by omega), Int.tmod_eq_emod_of_nonneg h2]
  unfold bv
  split <;> omega
/-! ### The document's bits of an item -/
theorem laid_loop (v : Int) (h0 : 0 ≤ v) (h1 : v ≤ 9223372036854775807) (k : Nat) (hk : k ≤ 57) (sg : Bool) (V K : Int) :
    L11_0 (0, [.i v, .i ((k : Int) - 1), .b sg, .i V, .i K]) = some (if k = 0 then (0, [.b sg, .i V, .i K]) else (1, [.n k, .b sg, .i V, .i K, .l (topL v k k)])) := by
  by_cases c : k = 0
  · subst c
    rw [if_pos rfl]
    exact loopL_last (m := 2) (f := f11_0) (j := 0) (by
      simp -implicitDefEqProofs only [f11_0, f11_0_0, asI_i, asB_b, asN_n, asL_l, asE_nil, Bool.cond_decide, if_neg (show ¬ (0 : Int) ≤ ((0 : Nat) : Int) - 1 by omega)])
  · rw [if_neg c]
    have main := loopL_run (m := 2) (f := f11_0) (fun j => if j = 0 then (0, [.i v, .i ((k : Int) - 1), .b sg, .i V, .i K]) else (1, [.i v, .n j, .i ((k : Int) - 1 - j), .b sg, .i V, .i K, .l (topL v k j)])) k (j := 1) (r := [.n k, .b sg, .i V, .i K, .l (topL v k k)]) (fun j hj => ?_) ?_ (by omega)
    · unfold L11_0; exact main
    · simp only [Nat.succ_ne_zero, if_false]
      refine ⟨?_, by show 1 < 2; omega⟩
      have e2 : ((k : Int) - 1 - ((j + 1 : Nat) : Int)) = ((k - 1 - j : Nat) : Int) - 1 := by omega
      have et : ((k : Int) - 1 - j) = ((k - 1 - j : Nat) : Int) := by omega
      have hp := power_ok (k - 1 - j) (by omega)
      have hpp := pw_pos (k - 1 - j)
      have hb := law_bv h0 h1 (k - 1 - j)
      have w1 : IntKind.i64.wrap (((k - 1 - j : Nat) : Int) - 1) = ((k - 1 - j : Nat) : Int) - 1 := wrap64 (by omega) (by omega)
      have es : topL v k (j + 1) = topL v k j ++ [bv v (k - 1 - j)] := rfl
      by_cases q : j = 0
      · subst q
        rw [if_pos rfl, e2, show ((k : Int) - 1) = ((k - 1 - 0 : Nat) : Int) by omega, es, show topL v k 0 = [] from rfl, List.nil_append]
        simp -implicitDefEqProofs only [f11_0, f11_0_0, asI_i, asB_b, asN_n, asL_l, asE_nil, Bool.cond_decide, if_pos (show (0 : Int) ≤ ((k - 1 - 0 : Nat) : Int) by omega), hp, altK_0, if_neg (show ¬ pw (k - 1 - 0) = 0 by omega), hb, w1, Nat.zero_add]
      · rw [if_neg q, et, e2, es]
        have hl := topL_len v k j
        simp -implicitDefEqProofs only [f11_0, f11_0_1, asI_i, asB_b, asN_n, asL_l, asE_nil, Bool.cond_decide, if_pos (show (0 : Int) ≤ ((k - 1 - j : Nat) : Int) by omega), hp, altK_0, if_neg (show ¬ pw (k - 1 - j) = 0 by omega), hb, w1, if_pos (show (j + 1) * 1 ≤ 70368744177664 by omega), if_pos (show (topL v k j).length = j * 1 by omega)]
    · rw [if_neg c, show ((k : Int) - 1 - k) = -1 by omega]
      simp -implicitDefEqProofs only [f11_0, f11_0_1, asI_i, asB_b, asN_n, asL_l, asE_nil, Bool.cond_decide, if_neg (show ¬ (0 : Int) ≤ -1 by omega)]
theorem laid_ok (sg : Bool) (V K : Int) (h1 : -9223372036854775808 ≤ V) (h2 : V ≤ 9223372036854775807) :
    g11 (0, [.b sg, .i V, .i K]) = some (if okI sg V K = false then (0, [.b false]) else if K = 0 then (0, [.b true]) else (1, [.n K.toNat, .l (topL (vlI V K) K.toNat K.toNat)])) := by
  by_cases k1 : K < 0
  · have e : okI sg V K = false := by unfold okI; rw [if_pos k1]
    rw [if_pos e]
    simp -implicitDefEqProofs only [g11, g11_0, asI_i, asB_b, asE_nil, Bool.cond_decide, if_pos k1]
  · by_cases k2 : 57 < K
    · have e : okI sg V K = false := by unfold okI; rw [if_neg k1, if_pos k2]
      rw [if_pos e]
      simp -implicitDefEqProofs only [g11, g11_0, asI_i, asB_b, asE_nil, Bool.cond_decide, if_neg k1, if_pos k2]
    · obtain ⟨k, rfl⟩ : ∃ k : Nat, K = k := ⟨K.toNat, by omega⟩
      have hf := fits_ok V k (by omega)
      have hp := power_ok k (by omega)
      have eo : okI sg V k = if sg = true then fitP V k else decide (0 ≤ V ∧ V < pw k) := by unfold okI; rw [if_neg k1, if_neg k2, Int.toNat_natCast]
      have w1 : IntKind.i64.wrap ((k : Int) - 1) = (k : Int) - 1 := wrap64 (by omega) (by omega)
      by_cases ok : okI sg V k = true
      · have hv := okI_val ok
        rw [Int.toNat_natCast] at hv
        have hq := pw_57 (k := k) (by omega)
        have hl := laid_loop (vlI V k) hv.1 (by omega) k (by omega) sg V k
        rw [if_neg (show ¬ okI sg V k = false by rw [ok]; decide), Int.toNat_natCast]
        have hvn : V < 0 → IntKind.i64.wrap (V + pw k) = vlI V k := fun c => by
          have e : vlI V k = V + pw k := by unfold vlI; rw [if_pos c, Int.toNat_natCast]
          rw [e] at hv ⊢
          exact wrap64 (by omega) (by omega)
        have hvp : ¬ V < 0 → vlI V k = V := fun c => by unfold vlI; rw [if_neg c]
        rw [eo] at ok
        cases sg with
        | true =>
          rw [if_pos rfl] at ok
          rw [ok] at hf
          by_cases c : V < 0
          · by_cases z : k = 0
            · rw [if_pos z] at hl
              rw [if_pos (show (k : Int) = 0 by omega)]
              simp -implicitDefEqProofs only [g11, g11_0, asI_i, asB_b, asN_n, asL_l, asE_nil, Bool.cond_decide, Bool.not_true, Bool.not_false, cond_true, cond_false, if_neg k1, if_neg k2, hf, altK_0, altK_1, if_pos c, hp, hvn c, w1, hl]
            · rw [if_neg z] at hl
              rw [if_neg (show ¬ (k : Int) = 0 by omega)]
              simp -implicitDefEqProofs only [g11, g11_0, asI_i, asB_b, asN_n, asL_l, asE_nil, Bool.cond_decide, Bool.not_true, Bool.not_false, cond_true, cond_false, if_neg k1, if_neg k2, hf, altK_0, altK_1, if_pos c, hp, hvn c, w1, hl]
          · rw [hvp c] at hl ⊢
            by_cases z : k = 0
            · rw [if_pos z] at hl
              rw [if_pos (show (k : Int) = 0 by omega)]
              simp -implicitDefEqProofs only [g11, g11_0, asI_i, asB_b, asN_n, asL_l, asE_nil, Bool.cond_decide, Bool.not_true, Bool.not_false, cond_true, cond_false, if_neg k1, if_neg k2, hf, altK_0, altK_1, if_neg c, hp, w1, hl]
            · rw [if_neg z] at hl
              rw [if_neg (show ¬ (k : Int) = 0 by omega)]
              simp -implicitDefEqProofs only [g11, g11_0, asI_i, asB_b, asN_n, asL_l, asE_nil, Bool.cond_decide, Bool.not_true, Bool.not_false, cond_true, cond_false, if_neg k1, if_neg k2, hf, altK_0, altK_1, if_neg c, hp, w1, hl]
        | false =>
          rw [if_neg Bool.false_ne_true, decide_eq_true_eq] at ok
          have c : ¬ V < 0 := by omega
          rw [hvp c] at hl ⊢
          by_cases z : k = 0
          · rw [if_pos z] at hl
            rw [if_pos (show (k : Int) = 0 by omega)]
            simp -implicitDefEqProofs only [g11, g11_0, asI_i, asB_b, asN_n, asL_l, asE_nil, Bool.cond_decide, Bool.not_true, Bool.not_false, cond_true, cond_false, if_neg k1, if_neg k2, altK_0, altK_1, if_neg c, hp, if_neg (show ¬ pw k ≤ V by omega), w1, hl]
          · rw [if_neg z] at hl
            rw [if_neg (show ¬ (k : Int) = 0 by omega)]
            simp -implicitDefEqProofs only [g11, g11_0, asI_i, asB_b, asN_n, asL_l, asE_nil, Bool.cond_decide, Bool.not_true, Bool.not_false, cond_true, cond_false, if_neg k1, if_neg k2, altK_0, altK_1, if_neg c, hp, if_neg (show ¬ pw k ≤ V by omega), w1, hl]
      · have ok' : okI sg V k = false := by simpa using ok
        rw [if_pos ok']
        rw [eo] at ok'
        cases sg with
        | true =>
          rw [if_pos rfl] at ok'
          rw [ok'] at hf
          simp -implicitDefEqProofs only [g11, g11_0, asI_i, asB_b, asN_n, asL_l, asE_nil, Bool.cond_decide, Bool.not_true, Bool.not_false, cond_true, cond_false, if_neg k1, if_neg k2, hf, altK_0]
        | false =>
          rw [if_neg Bool.false_ne_true, decide_eq_false_iff_not] at ok'
          by_cases c : V < 0
          · simp -implicitDefEqProofs only [g11, g11_0, asI_i, asB_b, asN_n, asL_l, asE_nil, Bool.cond_decide, Bool.not_true, Bool.not_false, cond_true, cond_false, if_neg k1, if_neg k2, if_pos c]
          · simp -implicitDefEqProofs only [g11, g11_0, asI_i, asB_b, asN_n, asL_l, asE_nil, Bool.cond_decide, Bool.not_true, Bool.not_false, cond_true, cond_false, if_neg k1, if_neg k2, if_neg c, hp, altK_0, if_pos (show pw k ≤ V by omega)]
/-! ### The writer lays an item -/
theorem wlay_bad {A : List Int} {e V K : Int} {sg : Bool} (h : okI sg V K = false) : wlay A e sg V K = (A, if e = 0 then 5 else e) := by
  unfold wlay
  by_cases c : e ≠ 0
  · rw [if_pos c, if_neg c]
  · rw [if_neg c, if_neg (by rw [h]; decide), if_pos (Classical.not_not.1 c)]
theorem sgn0 (e V K : Int) (h1 : -9223372036854775808 ≤ V) (h2 : V ≤ 9223372036854775807) :
    g30 (0, [.i V, .i K, .i 0, .i e]) = some (if (wlay [] e true V K).1.length = 0 then (0, [.i 0, .i (wlay [] e true V K).2]) else (1, WL (wlay [] e true V K).1 (wlay [] e true V K).2)) := by
  by_cases ok : okI true V K = true
  · have hK := okI_K ok
    have hv := okI_val ok
    have hq := pw_57 (k := K.toNat) (by omega)
    have hput := put0 hv.1 (by omega) e K
    rw [wput_lay_sg ok] at hput
    obtain ⟨k, rfl⟩ : ∃ k : Nat, K = k := ⟨K.toNat, by omega⟩
    have hf := Fits_ok V k (by omega)
    have hfp : fitP V k = true := by unfold okI at ok; rw [if_neg (by omega), if_neg (by omega), if_pos rfl, Int.toNat_natCast] at ok; exact ok
    rw [hfp] at hf
    have ha := and_val h1 h2 (by omega) hfp
    generalize wlay [] e true V k = q at *
    by_cases c : q.1.length = 0
    · rw [if_pos c] at hput ⊢
      simp -implicitDefEqProofs only [g30, g30_0, asI_i, asB_b, asN_n, asL_l, asE_nil, Bool.cond_decide, Bool.not_true, cond_true, cond_false, if_neg (show ¬ (k : Int) < 0 by omega), if_neg (show ¬ (57 : Int) < k by omega), hf, altK_0, ha, hput]
    · rw [if_neg c] at hput ⊢
      unfold WL at *
      simp -implicitDefEqProofs only [g30, g30_0, asI_i, asB_b, asN_n, asL_l, asE_nil, Bool.cond_decide, Bool.not_true, cond_true, cond_false, if_neg (show ¬ (k : Int) < 0 by omega), if_neg (show ¬ (57 : Int) < k by omega), hf, altK_0, altK_1, ha, hput]
  · have ok' : okI true V K = false := by simpa using ok
    rw [wlay_bad ok']
    refine Eq.trans ?_ (congrArg some (if_pos (show ([] : List Int).length = 0 from rfl)).symm)
    by_cases k1 : K < 0
    · by_cases z : e = 0
      · rw [if_pos z]; simp -implicitDefEqProofs only [g30, g30_0, asI_i, asE_nil, Bool.cond_decide, if_pos k1, if_pos z]
      · rw [if_neg z]; simp -implicitDefEqProofs only [g30, g30_0, asI_i, asE_nil, Bool.cond_decide, if_pos k1, if_neg z]
    · by_cases k2 : 57 < K
      · by_cases z : e = 0
        · rw [if_pos z]; simp -implicitDefEqProofs only [g30, g30_0, asI_i, asE_nil, Bool.cond_decide, if_neg k1, if_pos k2, if_pos z]
        · rw [if_neg z]; simp -implicitDefEqProofs only [g30, g30_0, asI_i, asE_nil, Bool.cond_decide, if_neg k1, if_pos k2, if_neg z]
      · obtain ⟨k, rfl⟩ : ∃ k : Nat, K = k := ⟨K.toNat, by omega⟩
        have hf := Fits_ok V k (by omega)
        have hfp : fitP V k = false := by unfold okI at ok'; rw [if_neg k1, if_neg k2, if_pos rfl, Int.toNat_natCast] at ok'; exact ok'
        rw [hfp] at hf
        by_cases z : e = 0
        · rw [if_pos z]; simp -implicitDefEqProofs only [g30, g30_0, asI_i, asB_b, asE_nil, Bool.cond_decide, Bool.not_false, cond_true, if_neg k1, if_neg k2, hf, altK_0, if_pos z]
        · rw [if_neg z]; simp -implicitDefEqProofs only [g30, g30_0, asI_i, asB_b, asE_nil, Bool.cond_decide, Bool.not_false, cond_true, if_neg k1, if_neg k2, hf, altK_0, if_neg z]
theorem sgn1 {A : List Int} (hA : B01 A) (hl : A.length ≤ 90000) (e V K : Int) (h1 : -9223372036854775808 ≤ V) (h2 : V ≤ 9223372036854775807) : ∃ j, (j = 1 ∨ j = 2) ∧
    g30 (1, .i V :: .i K :: WL A e) = some (j, WL (wlay A e true V K).1 (wlay A e true V K).2) := by
  by_cases ok : okI true V K = true
  · have hK := okI_K ok
    have hv := okI_val ok
    have hq := pw_57 (k := K.toNat) (by omega)
    obtain ⟨j, hj, hput⟩ := put1 hv.1 (by omega) hA hl e K
    rw [wput_lay_sg ok] at hput
    obtain ⟨k, rfl⟩ : ∃ k : Nat, K = k := ⟨K.toNat, by omega⟩
    have hf := Fits_ok V k (by omega)
    have hfp : fitP V k = true := by unfold okI at ok; rw [if_neg (by omega), if_neg (by omega), if_pos rfl, Int.toNat_natCast] at ok; exact ok
    rw [hfp] at hf
    have ha := and_val h1 h2 (by omega) hfp
    generalize wlay A e true V k = q at *
    refine ⟨j, hj, ?_⟩
    unfold WL at *
    rcases hj with rfl | rfl
    all_goals simp -implicitDefEqProofs only [g30, g30_1, asI_i, asB_b, asN_n, asL_l, asE_nil, Bool.cond_decide, Bool.not_true, cond_true, cond_false, if_neg (show ¬ (k : Int) < 0 by omega), if_neg (show ¬ (57 : Int) < k by omega), hf, altK_0, altK_1, altK_2, ha, hput]
  · have ok' : okI true V K = false := by simpa using ok
    rw [wlay_bad ok']
    refine ⟨1, Or.inl rfl, ?_⟩
    unfold WL
    by_cases k1 : K < 0
    · by_cases z : e = 0
      · rw [if_pos z]; simp -implicitDefEqProofs only [g30, g30_1, asI_i, asN_n, asL_l, asE_nil, Bool.cond_decide, if_pos k1, if_pos z]
      · rw [if_neg z]; simp -implicitDefEqProofs only [g30, g30_1, asI_i, asN_n, asL_l, asE_nil, Bool.cond_decide, if_pos k1, if_neg z]
    · by_cases k2 : 57 < K
      · by_cases z : e = 0
        · rw [if_pos z]; simp -implicitDefEqProofs only [g30, g30_1, asI_i, asN_n, asL_l, asE_nil, Bool.cond_decide, if_neg k1, if_pos k2, if_pos z]
        · rw [if_neg z]; simp -implicitDefEqProofs only [g30, g30_1, asI_i, asN_n, asL_l, asE_nil, Bool.cond_decide, if_neg k1, if_pos k2, if_neg z]
      · obtain ⟨k, rfl⟩ : ∃ k : Nat, K = k := ⟨K.toNat, by omega⟩
        have hf := Fits_ok V k (by omega)
        have hfp : fitP V k = false := by unfold okI at ok'; rw [if_neg k1, if_neg k2, if_pos rfl, Int.toNat_natCast] at ok'; exact ok'
        rw [hfp] at hf
        by_cases z : e = 0
        · rw [if_pos z]; simp -implicitDefEqProofs only [g30, g30_1, asI_i, asB_b, asN_n, asL_l, asE_nil, Bool.cond_decide, Bool.not_false, cond_true, if_neg k1, if_neg k2, hf, altK_0, if_pos z]
        · rw [if_neg z]; simp -implicitDefEqProofs only [g30, g30_1, asI_i, asB_b, asN_n, asL_l, asE_nil, Bool.cond_decide, Bool.not_false, cond_true, if_neg k1, if_neg k2, hf, altK_0, if_neg z]
theorem wu_in {V : Int} (h1 : -9223372036854775808 ≤ V) (h2 : V ≤ 9223372036854775807) : 0 ≤ IntKind.u64.wrap V ∧ IntKind.u64.wrap V ≤ 18446744073709551615 := by
  rw [wu_val h1 h2]; split <;> omega
theorem lay0 (sg : Bool) (e V K : Int) (h1 : -9223372036854775808 ≤ V) (h2 : V ≤ 9223372036854775807) :
    g12 (0, [.b sg, .i V, .i K, .i 0, .i e]) = some (if (wlay [] e sg V K).1.length = 0 then (0, [.i 0, .i (wlay [] e sg V K).2]) else (1, WL (wlay [] e sg V K).1 (wlay [] e sg V K).2)) := by
  cases sg with
  | true =>
    have h := sgn0 e V K h1 h2
    generalize wlay [] e true V K = q at *
    by_cases c : q.1.length = 0
    · rw [if_pos c] at h ⊢
      simp -implicitDefEqProofs only [g12, g12_0, asI_i, asB_b, asN_n, asL_l, asE_nil, cond_true, h, altK_0]
    · rw [if_neg c] at h ⊢
      unfold WL at *
      simp -implicitDefEqProofs only [g12, g12_0, asI_i, asB_b, asN_n, asL_l, asE_nil, cond_true, h, altK_1]
  | false =>
    have hw := wu_in h1 h2
    have h := put0 hw.1 hw.2 e K
    rw [wput_lay_un h1 h2] at h
    generalize wlay [] e false V K = q at *
    by_cases c : q.1.length = 0
    · rw [if_pos c] at h ⊢
      simp -implicitDefEqProofs only [g12, g12_0, asI_i, asB_b, asN_n, asL_l, asE_nil, cond_false, h, altK_0]
    · rw [if_neg c] at h ⊢
      unfold WL at *
      simp -implicitDefEqProofs only [g12, g12_0, asI_i, asB_b, asN_n, asL_l, asE_nil, cond_false, h, altK_1]
theorem lay1 {A : List Int} (hA : B01 A) (hl : A.length ≤ 90000) (sg : Bool) (e V K : Int) (h1 : -9223372036854775808 ≤ V) (h2 : V ≤ 9223372036854775807) : ∃ j, (j = 1 ∨ j = 2) ∧
    g12 (1, .b sg :: .i V :: .i K :: WL A e) = some (j, WL (wlay A e sg V K).1 (wlay A e sg V K).2) := by
  cases sg with
  | true =>
    obtain ⟨j, hj, h⟩ := sgn1 hA hl e V K h1 h2
    refine ⟨j, hj, ?_⟩
    generalize wlay A e true V K = q at *
    unfold WL at *
    rcases hj with rfl | rfl
    all_goals simp -implicitDefEqProofs only [g12, g12_1, asI_i, asB_b, asN_n, asL_l, asE_nil, cond_true, h, altK_1, altK_2]
  | false =>
    have hw := wu_in h1 h2
    obtain ⟨j, hj, h⟩ := put1 hw.1 hw.2 hA hl e K
    rw [wput_lay_un h1 h2] at h
    refine ⟨j, hj, ?_⟩
    generalize wlay A e false V K = q at *
    unfold WL at *
    rcases hj with rfl | rfl
    all_goals simp -implicitDefEqProofs only [g12, g12_1, asI_i, asB_b, asN_n, asL_l, asE_nil, cond_false, h, altK_1, altK_2]
/-! ### Bytes -/
theorem byts0 (size e : Int) (hs : size ≤ 1000) : g13 (0, [.i size, .i 0, .i e]) = some (if e ≠ 0 then (1, [.i e, .i 0, .i e]) else if size < 0 then (1, [.i 1, .i 0, .i e]) else (0, [.n size.toNat, .i 0, .i 0, .i e, .l (List.replicate size.toNat 0)])) := by
  by_cases c : e ≠ 0
  · rw [if_pos c]
    simp -implicitDefEqProofs only [g13, g13_0, asI_i, asE_nil, Bool.cond_decide, if_pos c]
  · rw [if_neg c]
    by_cases d : size < 0
    · rw [if_pos d]
      simp -implicitDefEqProofs only [g13, g13_0, asI_i, asE_nil, Bool.cond_decide, if_neg c, if_pos d]
    · rw [if_neg d]
      simp -implicitDefEqProofs only [g13, g13_0, asI_i, asE_nil, Bool.cond_decide, if_neg c, if_neg d, if_true, if_pos (show (0 : Int) ≤ size by omega), if_pos (show (1 : Int) * size ≤ 140737488355328 by omega), if_pos (show size ≤ 9223372036854775807 by omega)]
theorem byts1 (A : List Int) (size e : Int) (hs : size ≤ 1000) : g13 (1, .i size :: WL A e) = some (if e ≠ 0 then (3, .i e :: WL A e) else if size < 0 then (3, .i 1 :: WL A e) else if size < ((A.length + 7) / 8 : Nat) then (3, .i 3 :: WL A e) else (2, .n size.toNat :: .i 0 :: (WL A e ++ [.l (packL A size.toNat)]))) := by
  unfold WL
  by_cases c : e ≠ 0
  · rw [if_pos c]
    simp -implicitDefEqProofs only [g13, g13_1, asI_i, asN_n, asL_l, asE_nil, Bool.cond_decide, if_pos c]
  · rw [if_neg c]
    by_cases d : size < 0
    · rw [if_pos d]
      simp -implicitDefEqProofs only [g13, g13_1, asI_i, asN_n, asL_l, asE_nil, Bool.cond_decide, if_neg c, if_pos d]
    · rw [if_neg d]
      by_cases q : size < ((A.length + 7) / 8 : Nat)
      · rw [if_pos q]
        simp -implicitDefEqProofs only [g13, g13_1, asI_i, asN_n, asL_l, asE_nil, Bool.cond_decide, if_neg c, if_neg d, if_pos q]
      · rw [if_neg q]
        obtain ⟨z, rfl⟩ : ∃ z : Nat, size = z := ⟨size.toNat, by omega⟩
        rw [Int.toNat_natCast]
        have hm : (A.length + 7) / 8 ≤ z := by omega
        have hmin : min ((A.length + 7) / 8) z = (A.length + 7) / 8 := by omega
        have htk : List.take ((A.length + 7) / 8 * 1) (packL A ((A.length + 7) / 8)) = packL A ((A.length + 7) / 8) := List.take_of_length_le (by rw [pack_len]; omega)
        have hrep : List.drop (0 + (A.length + 7) / 8) (List.replicate z (0 : Int)) = List.replicate (z - (A.length + 7) / 8) 0 := by rw [List.drop_replicate, Nat.zero_add]
        have hpad : packL A ((A.length + 7) / 8) ++ List.replicate (z - (A.length + 7) / 8) 0 = packL A z := by
          rw [pack_pad (by omega), show (A.length + 7) / 8 + (z - (A.length + 7) / 8) = z by omega]
        simp -implicitDefEqProofs only [g13, g13_1, asI_i, asN_n, asL_l, asE_nil, Bool.cond_decide, if_neg c, if_neg d, if_neg q, if_true, if_pos (show (0 : Int) ≤ (z : Int) by omega), if_pos (show (1 : Int) * (z : Int) ≤ 140737488355328 by omega), if_pos (show (z : Int) ≤ 9223372036854775807 by omega), Int.toNat_natCast, hmin, if_pos (Nat.le_refl _), pack_len, if_pos (show 0 + (A.length + 7) / 8 * 1 ≤ (A.length + 7) / 8 by omega), htk, List.length_replicate, if_pos (show 0 + (A.length + 7) / 8 ≤ z by omega), hrep, hpad, List.cons_append, List.nil_append]
end Go.Proofs.Ytkahlinndcnjiaa
