/-
  What samples are like, counted one by one: by the program, and by the document. Conditions: none.
-/
import Derived.Test.YtjekhbenohnpnaaRoots
import Derived.Test.YtjekhbenohnpnaaNumc
namespace Go.Proofs.Ytjekhbenohnpnaa
open Go Go.Sx
set_option maxRecDepth 100000
set_option linter.unusedVariables false
attribute [local simp] asI_i asB_b asL_l asN_n asS_s asE_nil altK_none altK_0 altK_1 altK_2 altK_3 optK_some optK_none Bool.cond_decide Bool.cond_not Int.toNat_natCast
set_option linter.unusedSimpArgs false
structure Lv where
  n : Int
  pk : Int
  lo : Int
  hi : Int
  sm : Int
  pw : Int
  cr : Int
  cl : Int
  ru : Int
  last : Int
  row : Int
def lv0 : Lv := ⟨0, 0, 0, 0, 0, 0, 0, 0, 0, 0, 0⟩
def sgV (v : Int) : Int := clampV v (-1) 1
theorem sgV_def (v : Int) : (v < 0 ∧ sgV v = -1) ∨ (v = 0 ∧ sgV v = 0) ∨ (0 < v ∧ sgV v = 1) := by
  unfold sgV clampV
  repeat' split
  all_goals omega
def Small (v : Int) : Prop := -1048576 ≤ v ∧ v ≤ 1048576
def stp (k : Nat) (s : Lv) (v : Int) : Lv :=
  ⟨s.n + 1, if absV v > s.pk then absV v else s.pk,
   if v < (if (k : Int) = 0 then v else s.lo) then v else (if (k : Int) = 0 then v else s.lo),
   if v > (if (k : Int) = 0 then v else s.hi) then v else (if (k : Int) = 0 then v else s.hi),
   s.sm + v, s.pw + v * v,
   if sgV v ≠ 0 ∧ s.last ≠ 0 ∧ sgV v ≠ s.last then s.cr + 1 else s.cr,
   if v ≤ -32768 ∨ 32767 ≤ v then s.cl + 1 else s.cl,
   if sgV v ≠ 0 then (if 0 > s.ru then 0 else s.ru) else (if s.row + 1 > s.ru then s.row + 1 else s.ru),
   if sgV v ≠ 0 then sgV v else s.last,
   if sgV v ≠ 0 then 0 else s.row + 1⟩
def Inv (k : Nat) (s : Lv) : Prop :=
  s.n = k ∧ (0 ≤ s.pk ∧ s.pk ≤ 1048576) ∧ (-1048576 ≤ s.lo ∧ s.lo ≤ 1048576) ∧ (-1048576 ≤ s.hi ∧ s.hi ≤ 1048576) ∧ (-(1048576 * (k : Int)) ≤ s.sm ∧ s.sm ≤ 1048576 * (k : Int)) ∧
  (0 ≤ s.pw ∧ s.pw ≤ 1099511627776 * (k : Int)) ∧ (0 ≤ s.cr ∧ s.cr ≤ k) ∧ (0 ≤ s.cl ∧ s.cl ≤ k) ∧ (0 ≤ s.ru ∧ s.ru ≤ k) ∧ (s.last = -1 ∨ s.last = 0 ∨ s.last = 1) ∧ (0 ≤ s.row ∧ s.row ≤ k)
theorem inv_0 : Inv 0 lv0 := by unfold Inv lv0; simp
theorem sq_in {v : Int} (h : Small v) : 0 ≤ v * v ∧ v * v ≤ 1099511627776 := by
  unfold Small at h
  refine ⟨?_, ?_⟩
  · rcases Int.le_total 0 v with c | c
    · exact Int.mul_nonneg c c
    · exact Int.mul_nonneg_of_nonpos_of_nonpos c c
  · rcases Int.le_total 0 v with c | c
    · exact Int.mul_le_mul h.2 h.2 c (by omega)
    · have := Int.mul_le_mul (show -v ≤ 1048576 by omega) (show -v ≤ 1048576 by omega) (show 0 ≤ -v by omega) (by omega)
      rwa [Int.neg_mul_neg] at this
theorem abs_small {v : Int} (h : Small v) : absV v = (if v < 0 then 0 - v else v) := by
  unfold Small at h
  unfold absV
  rw [if_neg (by omega)]
theorem inv_step {k : Nat} {s : Lv} {v : Int} (h : Inv k s) (hv : Small v) : Inv (k + 1) (stp k s v) := by
  have hq := sq_in hv
  have ha := abs_small hv
  have hs := sgV_def v
  unfold Small at hv
  unfold Inv at h ⊢
  obtain ⟨n, pk, lo, hi, sm, pw, cr, cl, ru, last, row⟩ := s
  simp only [stp] at h ⊢
  rw [ha]
  generalize v * v = q at *
  generalize sgV v = g at *
  obtain ⟨i1, i2, i3, i4, i5, i6, i7, i8, i9, i10, i11⟩ := h
  refine ⟨by omega, ?_, ?_, ?_, by omega, by omega, ?_, ?_, ?_, ?_, ?_⟩ <;> (repeat' split) <;> omega
def lvK (F : Nat → Int) : Nat → Lv
  | 0 => lv0
  | k + 1 => stp k (lvK F k) (F k)
theorem lvK_inv (F : Nat → Int) : ∀ k, (∀ i, i < k → Small (F i)) → Inv k (lvK F k)
  | 0, _ => inv_0
  | k + 1, h => inv_step (lvK_inv F k fun i hi => h i (by omega)) (h k (by omega))
theorem of_0 (t4 t5 t6 t7 : Int) (t9 : Nat) (t10 t11 : Int) (l : List Int) (z0 z1 z2 z3 z4 z5 z6 z7 z8 n pk lo hi sm pw cr cl ru : Int) : L11_0 (0, [.i t4, .i t5, .i t6, .i t7, .n t9, .i t10, .i t11, .l l, .i z0, .i z1, .i z2, .i z3, .i z4, .i z5, .i z6, .i z7, .i z8, .i n, .i pk, .i lo, .i hi, .i sm, .i pw, .i cr, .i cl, .i ru]) = some (0, [.i t4, .i t5, .i t6, .i t7, .n t9, .i t10, .i t11, .b (decide (t6 = 0)), .l l, .i z0, .i z1, .i z2, .i z3, .i z4, .i z5, .i z6, .i z7, .i z8, .i n, .i pk, .i (if t6 = 0 then t7 else lo), .i (if t6 = 0 then t7 else hi), .i sm, .i pw, .i cr, .i cl, .i ru]) := by
  simp -implicitDefEqProofs only [L11_0, f11_0_0, asI_i, asN_n, asL_l, asB_b, asE_nil, Bool.cond_decide]
  by_cases c : t6 = 0
  · rw [if_pos c, if_pos c, if_pos c, decide_eq_true c]
  · rw [if_neg c, if_neg c, if_neg c, decide_eq_false c]
theorem of_1 (t4 t5 t6 t7 : Int) (t9 : Nat) (t10 t11 : Int) (b1 : Bool) (l : List Int) (z0 z1 z2 z3 z4 z5 z6 z7 z8 n pk lo hi sm pw cr cl ru : Int) : L11_1 (0, [.i t4, .i t5, .i t6, .i t7, .n t9, .i t10, .i t11, .b b1, .l l, .i z0, .i z1, .i z2, .i z3, .i z4, .i z5, .i z6, .i z7, .i z8, .i n, .i pk, .i lo, .i hi, .i sm, .i pw, .i cr, .i cl, .i ru]) = some (0, [.i t4, .i t5, .i t6, .i t7, .n t9, .i t10, .i t11, .b b1, .b (decide (t7 ≤ -32768 ∨ 32767 ≤ t7)), .l l, .i z0, .i z1, .i z2, .i z3, .i z4, .i z5, .i z6, .i z7, .i z8, .i n, .i pk, .i lo, .i hi, .i sm, .i pw, .i cr, .i (if t7 ≤ -32768 ∨ 32767 ≤ t7 then IntKind.i64.wrap (cl + 1) else cl), .i ru]) := by
  simp -implicitDefEqProofs only [L11_1, f11_1_0, asI_i, asN_n, asL_l, asB_b, asE_nil, Bool.cond_decide]
  by_cases c : t7 ≤ -32768
  · rw [if_pos c, if_pos (Or.inl c), decide_eq_true (Or.inl c)]
  · rw [if_neg c]
    by_cases c2 : 32767 ≤ t7
    · rw [if_pos c2, if_pos (Or.inr c2), decide_eq_true (Or.inr c2)]
    · rw [if_neg c2, if_neg (by omega), decide_eq_false (by omega)]
theorem of_2 (t4 t5 t6 t7 t8 : Int) (t9 : Nat) (t10 t11 : Int) (b1 b2 : Bool) (l : List Int) (z0 z1 z2 z3 z4 z5 z6 z7 z8 n pk lo hi sm pw cr cl ru : Int) : L11_2 (0, [.i t4, .i t5, .i t6, .i t7, .i t8, .n t9, .i t10, .i t11, .b b1, .b b2, .l l, .i z0, .i z1, .i z2, .i z3, .i z4, .i z5, .i z6, .i z7, .i z8, .i n, .i pk, .i lo, .i hi, .i sm, .i pw, .i cr, .i cl, .i ru]) = some (0, [.i t4, .i t5, .i t6, .i t7, .i t8, .n t9, .i t10, .i t11, .b b1, .b b2, .b (decide (t8 ≠ 0 ∧ t4 ≠ 0 ∧ t8 ≠ t4)), .l l, .i z0, .i z1, .i z2, .i z3, .i z4, .i z5, .i z6, .i z7, .i z8, .i n, .i pk, .i lo, .i hi, .i sm, .i pw, .i (if t8 ≠ 0 ∧ t4 ≠ 0 ∧ t8 ≠ t4 then IntKind.i64.wrap (cr + 1) else cr), .i cl, .i ru]) := by
  simp -implicitDefEqProofs only [L11_2, f11_2_0, asI_i, asN_n, asL_l, asB_b, asE_nil, Bool.cond_decide]
  by_cases c : t8 ≠ 0 ∧ t4 ≠ 0 ∧ t8 ≠ t4
  · rw [if_pos c.1, if_pos c.2.1, if_pos c.2.2, if_pos c, decide_eq_true c]
  · rw [decide_eq_false c, if_neg c]
    repeat' split
    all_goals first | rfl | exact absurd (And.intro (by assumption) (And.intro (by assumption) (by assumption))) c
theorem turn_ok (v : Int) : g16 (0, [.i v]) = some (0, [.i (sgV v)]) := by
  simp -implicitDefEqProofs only [g16, g16_0, asI_i, asE_nil, clamp_ok, altK_0, sgV]
theorem sign_ok (v : Int) : g14 (0, [.i v]) = some (0, [.i (sgV v)]) := by
  simp -implicitDefEqProofs only [g14, g14_0, asI_i, asE_nil, Bool.cond_decide]
  unfold sgV clampV
  repeat' split
  all_goals first | rfl | omega | (simp only [Option.some.injEq, Prod.mk.injEq, List.cons.injEq, Leaf.i.injEq, true_and, and_true]; omega)
theorem of_step {k N : Nat} (hk : k < N) (hm : N ≤ 1000) {s : Lv} (h : Inv k s) {v : Int} (hv : Small v) (l : List Int) (hx0 : l[k]? = some v) : f11_3 (0, [.i s.last, .i s.row, .n N, .i N, .i k, .l l, .i 0, .i 0, .i 0, .i 0, .i 0, .i 0, .i 0, .i 0, .i 0, .i s.n, .i s.pk, .i s.lo, .i s.hi, .i s.sm, .i s.pw, .i s.cr, .i s.cl, .i s.ru]) = some (0, [.i (stp k s v).last, .i (stp k s v).row, .n N, .i N, .i (k + 1 : Nat), .l l, .i 0, .i 0, .i 0, .i 0, .i 0, .i 0, .i 0, .i 0, .i 0, .i (stp k s v).n, .i (stp k s v).pk, .i (stp k s v).lo, .i (stp k s v).hi, .i (stp k s v).sm, .i (stp k s v).pw, .i (stp k s v).cr, .i (stp k s v).cl, .i (stp k s v).ru]) := by
  have hq := sq_in hv
  have hsg := sgV_def v
  have hx := hx0
  unfold Inv at h
  have hv' := hv
  unfold Small at hv'
  obtain ⟨n, pk, lo, hi, sm, pw, cr, cl, ru, last, row⟩ := s
  simp only [] at h
  obtain ⟨i1, i2, i3, i4, i5, i6, i7, i8, i9, i10, i11⟩ := h
  have w1 : IntKind.i64.wrap (n + 1) = n + 1 := wrap64 (by omega) (by omega)
  have w2 : IntKind.i64.wrap (sm + v) = sm + v := wrap64 (by omega) (by omega)
  have w3 : IntKind.i64.wrap (v * v) = v * v := wrap64 (by omega) (by omega)
  have w4 : IntKind.i64.wrap (pw + v * v) = pw + v * v := wrap64 (by omega) (by omega)
  have w5 : IntKind.i64.wrap (cl + 1) = cl + 1 := wrap64 (by omega) (by omega)
  have w6 : IntKind.i64.wrap (cr + 1) = cr + 1 := wrap64 (by omega) (by omega)
  have w7 : IntKind.i64.wrap (row + 1) = row + 1 := wrap64 (by omega) (by omega)
  have w8 : IntKind.i64.wrap (0 - v) = 0 - v := wrap64 (by omega) (by omega)
  have wk : IntKind.i64.wrap ((k : Int) + 1) = ((k + 1 : Nat) : Int) := wrap_nat (n := k + 1) (by omega)
  have k1 : (k : Int) < N := by omega
  have k3 : (0 : Int) ≤ k ∧ (k : Int) < N := by omega
  have habs := abs_ok v (by unfold In64; omega)
  simp -implicitDefEqProofs only [f11_3, f11_3_0, asI_i, asN_n, asL_l, asB_b, asE_nil, Bool.cond_decide, if_pos k1, if_pos k3, Int.toNat_natCast, hx, optK_some, habs, altK_0, of_0, of_1, of_2, turn_ok, w1, w2, w3, w4, w5, w6, w7, wk, stp]
  by_cases q : sgV v ≠ 0
  · rw [if_pos q, if_pos q, if_pos q, if_pos q]
  · rw [if_neg q, if_neg q, if_neg q, if_neg q]
theorem lv_0 (t0 : Nat) (t4 t5 t6 t7 : Int) (l : List Int) (z0 z1 z2 z3 z4 z5 z6 z7 z8 n pk lo hi sm pw cr cl ru : Int) : L9_0 (0, [.n t0, .i t4, .i t5, .i t6, .i t7, .l l, .i z0, .i z1, .i z2, .i z3, .i z4, .i z5, .i z6, .i z7, .i z8, .i n, .i pk, .i lo, .i hi, .i sm, .i pw, .i cr, .i cl, .i ru]) = some (0, [.n t0, .i t4, .i t5, .i t6, .i t7, .b (decide (pk < t7)), .l l, .i z0, .i z1, .i z2, .i z3, .i z4, .i z5, .i z6, .i z7, .i z8, .i n, .i (if pk < t7 then t7 else pk), .i lo, .i hi, .i sm, .i pw, .i cr, .i cl, .i ru]) := by
  simp -implicitDefEqProofs only [L9_0, f9_0_0, asI_i, asN_n, asL_l, asB_b, asE_nil, Bool.cond_decide]
  by_cases c : pk < t7
  · rw [if_pos c, if_pos c, decide_eq_true c]
  · rw [if_neg c, if_neg c, decide_eq_false c]
theorem lv_1 (t0 : Nat) (t4 t5 t6 t7 : Int) (b0 : Bool) (l : List Int) (z0 z1 z2 z3 z4 z5 z6 z7 z8 n pk lo hi sm pw cr cl ru : Int) : L9_1 (0, [.n t0, .i t4, .i t5, .i t6, .i t7, .b b0, .l l, .i z0, .i z1, .i z2, .i z3, .i z4, .i z5, .i z6, .i z7, .i z8, .i n, .i pk, .i lo, .i hi, .i sm, .i pw, .i cr, .i cl, .i ru]) = some (0, [.n t0, .i t4, .i t5, .i t6, .i t7, .b b0, .b (decide (pk < IntKind.i64.wrap (0 - t7))), .l l, .i z0, .i z1, .i z2, .i z3, .i z4, .i z5, .i z6, .i z7, .i z8, .i n, .i (if pk < IntKind.i64.wrap (0 - t7) then IntKind.i64.wrap (0 - t7) else pk), .i lo, .i hi, .i sm, .i pw, .i cr, .i cl, .i ru]) := by
  simp -implicitDefEqProofs only [L9_1, f9_1_0, asI_i, asN_n, asL_l, asB_b, asE_nil, Bool.cond_decide]
  by_cases c : pk < IntKind.i64.wrap (0 - t7)
  · rw [if_pos c, if_pos c, decide_eq_true c]
  · rw [if_neg c, if_neg c, decide_eq_false c]
theorem lv_2 (t0 : Nat) (t4 t5 t6 t7 : Int) (b0 : Bool) (b1 : Bool) (l : List Int) (z0 z1 z2 z3 z4 z5 z6 z7 z8 n pk lo hi sm pw cr cl ru : Int) : L9_2 (0, [.n t0, .i t4, .i t5, .i t6, .i t7, .b b0, .b b1, .l l, .i z0, .i z1, .i z2, .i z3, .i z4, .i z5, .i z6, .i z7, .i z8, .i n, .i pk, .i lo, .i hi, .i sm, .i pw, .i cr, .i cl, .i ru]) = some (0, [.n t0, .i t4, .i t5, .i t6, .i t7, .b b0, .b b1, .b (decide (t6 = 0 ∨ t7 < lo)), .l l, .i z0, .i z1, .i z2, .i z3, .i z4, .i z5, .i z6, .i z7, .i z8, .i n, .i pk, .i (if t6 = 0 ∨ t7 < lo then t7 else lo), .i hi, .i sm, .i pw, .i cr, .i cl, .i ru]) := by
  simp -implicitDefEqProofs only [L9_2, f9_2_0, asI_i, asN_n, asL_l, asB_b, asE_nil, Bool.cond_decide]
  by_cases c : t6 = 0
  · rw [if_pos c, if_pos (Or.inl c), decide_eq_true (Or.inl c)]
  · rw [if_neg c]
    by_cases c2 : t7 < lo
    · rw [if_pos c2, if_pos (Or.inr c2), decide_eq_true (Or.inr c2)]
    · rw [if_neg c2, if_neg (by omega), decide_eq_false (by omega)]
theorem lv_3 (t0 : Nat) (t4 t5 t6 t7 : Int) (b0 : Bool) (b1 : Bool) (b2 : Bool) (l : List Int) (z0 z1 z2 z3 z4 z5 z6 z7 z8 n pk lo hi sm pw cr cl ru : Int) : L9_3 (0, [.n t0, .i t4, .i t5, .i t6, .i t7, .b b0, .b b1, .b b2, .l l, .i z0, .i z1, .i z2, .i z3, .i z4, .i z5, .i z6, .i z7, .i z8, .i n, .i pk, .i lo, .i hi, .i sm, .i pw, .i cr, .i cl, .i ru]) = some (0, [.n t0, .i t4, .i t5, .i t6, .i t7, .b b0, .b b1, .b b2, .b (decide (t6 = 0 ∨ hi < t7)), .l l, .i z0, .i z1, .i z2, .i z3, .i z4, .i z5, .i z6, .i z7, .i z8, .i n, .i pk, .i lo, .i (if t6 = 0 ∨ hi < t7 then t7 else hi), .i sm, .i pw, .i cr, .i cl, .i ru]) := by
  simp -implicitDefEqProofs only [L9_3, f9_3_0, asI_i, asN_n, asL_l, asB_b, asE_nil, Bool.cond_decide]
  by_cases c : t6 = 0
  · rw [if_pos c, if_pos (Or.inl c), decide_eq_true (Or.inl c)]
  · rw [if_neg c]
    by_cases c2 : hi < t7
    · rw [if_pos c2, if_pos (Or.inr c2), decide_eq_true (Or.inr c2)]
    · rw [if_neg c2, if_neg (by omega), decide_eq_false (by omega)]
theorem lv_4 (t0 : Nat) (t4 t5 t6 t7 : Int) (b0 : Bool) (b1 : Bool) (b2 : Bool) (b3 : Bool) (l : List Int) (z0 z1 z2 z3 z4 z5 z6 z7 z8 n pk lo hi sm pw cr cl ru : Int) : L9_4 (0, [.n t0, .i t4, .i t5, .i t6, .i t7, .b b0, .b b1, .b b2, .b b3, .l l, .i z0, .i z1, .i z2, .i z3, .i z4, .i z5, .i z6, .i z7, .i z8, .i n, .i pk, .i lo, .i hi, .i sm, .i pw, .i cr, .i cl, .i ru]) = some (0, [.n t0, .i t4, .i t5, .i t6, .i t7, .b b0, .b b1, .b b2, .b b3, .b (decide (t7 ≤ -32768 ∨ 32767 ≤ t7)), .l l, .i z0, .i z1, .i z2, .i z3, .i z4, .i z5, .i z6, .i z7, .i z8, .i n, .i pk, .i lo, .i hi, .i sm, .i pw, .i cr, .i (if t7 ≤ -32768 ∨ 32767 ≤ t7 then IntKind.i64.wrap (cl + 1) else cl), .i ru]) := by
  simp -implicitDefEqProofs only [L9_4, f9_4_0, asI_i, asN_n, asL_l, asB_b, asE_nil, Bool.cond_decide]
  by_cases c : t7 ≤ -32768
  · rw [if_pos c, if_pos (Or.inl c), decide_eq_true (Or.inl c)]
  · rw [if_neg c]
    by_cases c2 : 32767 ≤ t7
    · rw [if_pos c2, if_pos (Or.inr c2), decide_eq_true (Or.inr c2)]
    · rw [if_neg c2, if_neg (by omega), decide_eq_false (by omega)]
theorem lv_5z (t0 : Nat) (t4 t5 t6 t7 : Int) (b0 : Bool) (b1 : Bool) (b2 : Bool) (b3 : Bool) (b4 : Bool) (l : List Int) (z0 z1 z2 z3 z4 z5 z6 z7 z8 n pk lo hi sm pw cr cl ru : Int) (hz : t7 = 0) : L9_5 (0, [.n t0, .i t4, .i t5, .i t6, .i t7, .b b0, .b b1, .b b2, .b b3, .b b4, .l l, .i z0, .i z1, .i z2, .i z3, .i z4, .i z5, .i z6, .i z7, .i z8, .i n, .i pk, .i lo, .i hi, .i sm, .i pw, .i cr, .i cl, .i ru]) = some (0, [.n t0, .i t4, .i t5, .i t6, .i t7, .b b0, .b b1, .b b2, .b b3, .b b4, .l l, .i z0, .i z1, .i z2, .i z3, .i z4, .i z5, .i z6, .i z7, .i z8, .i n, .i pk, .i lo, .i hi, .i sm, .i pw, .i cr, .i cl, .i ru]) := by
  simp -implicitDefEqProofs only [L9_5, f9_5_0, asI_i, asN_n, asL_l, asB_b, asE_nil, Bool.cond_decide, if_neg (show ¬ t7 ≠ 0 from fun q => q hz)]
theorem lv_5n (t0 : Nat) (t4 t5 t6 t7 : Int) (b0 : Bool) (b1 : Bool) (b2 : Bool) (b3 : Bool) (b4 : Bool) (l : List Int) (z0 z1 z2 z3 z4 z5 z6 z7 z8 n pk lo hi sm pw cr cl ru : Int) (hz : t7 ≠ 0) : L9_5 (0, [.n t0, .i t4, .i t5, .i t6, .i t7, .b b0, .b b1, .b b2, .b b3, .b b4, .l l, .i z0, .i z1, .i z2, .i z3, .i z4, .i z5, .i z6, .i z7, .i z8, .i n, .i pk, .i lo, .i hi, .i sm, .i pw, .i cr, .i cl, .i ru]) = some (1, [.n t0, .i (sgV t7), .i 0, .i t6, .i t7, .b b0, .b b1, .b b2, .b b3, .b b4, .b (decide (t4 ≠ 0 ∧ sgV t7 ≠ t4)), .l l, .i z0, .i z1, .i z2, .i z3, .i z4, .i z5, .i z6, .i z7, .i z8, .i n, .i pk, .i lo, .i hi, .i sm, .i pw, .i (if t4 ≠ 0 ∧ sgV t7 ≠ t4 then IntKind.i64.wrap (cr + 1) else cr), .i cl, .i ru]) := by
  simp -implicitDefEqProofs only [L9_5, f9_5_0, asI_i, asN_n, asL_l, asB_b, asE_nil, Bool.cond_decide, if_pos hz, sign_ok, altK_0]
  by_cases c : t4 ≠ 0
  · rw [if_pos c]
    by_cases d : sgV t7 ≠ t4
    · rw [if_pos d, if_pos ⟨c, d⟩, decide_eq_true ⟨c, d⟩]
    · rw [if_neg d, if_neg (fun q => d q.2), decide_eq_false (fun q => d q.2)]
  · rw [if_neg c, if_neg (fun q => c q.1), decide_eq_false (fun q => c q.1)]
theorem lv_step {k N : Nat} (hk : k < N) (hm : N ≤ 1000) {s : Lv} (h : Inv k s) {v : Int} (hv : Small v) (l : List Int) (hx0 : l[k]? = some v) : f9_6 (0, [.n N, .i s.last, .i s.row, .i k, .l l, .i 0, .i 0, .i 0, .i 0, .i 0, .i 0, .i 0, .i 0, .i 0, .i s.n, .i s.pk, .i s.lo, .i s.hi, .i s.sm, .i s.pw, .i s.cr, .i s.cl, .i s.ru]) = some (0, [.n N, .i (stp k s v).last, .i (stp k s v).row, .i (k + 1 : Nat), .l l, .i 0, .i 0, .i 0, .i 0, .i 0, .i 0, .i 0, .i 0, .i 0, .i (stp k s v).n, .i (stp k s v).pk, .i (stp k s v).lo, .i (stp k s v).hi, .i (stp k s v).sm, .i (stp k s v).pw, .i (stp k s v).cr, .i (stp k s v).cl, .i (stp k s v).ru]) := by
  have hq := sq_in hv
  have hsg := sgV_def v
  have hx := hx0
  unfold Inv at h
  have hv' := hv
  unfold Small at hv'
  obtain ⟨n, pk, lo, hi, sm, pw, cr, cl, ru, last, row⟩ := s
  simp only [] at h
  obtain ⟨i1, i2, i3, i4, i5, i6, i7, i8, i9, i10, i11⟩ := h
  have w1 : IntKind.i64.wrap (n + 1) = n + 1 := wrap64 (by omega) (by omega)
  have w2 : IntKind.i64.wrap (sm + v) = sm + v := wrap64 (by omega) (by omega)
  have w3 : IntKind.i64.wrap (v * v) = v * v := wrap64 (by omega) (by omega)
  have w4 : IntKind.i64.wrap (pw + v * v) = pw + v * v := wrap64 (by omega) (by omega)
  have w5 : IntKind.i64.wrap (cl + 1) = cl + 1 := wrap64 (by omega) (by omega)
  have w6 : IntKind.i64.wrap (cr + 1) = cr + 1 := wrap64 (by omega) (by omega)
  have w7 : IntKind.i64.wrap (row + 1) = row + 1 := wrap64 (by omega) (by omega)
  have w8 : IntKind.i64.wrap (0 - v) = 0 - v := wrap64 (by omega) (by omega)
  have wk : IntKind.i64.wrap ((k : Int) + 1) = ((k + 1 : Nat) : Int) := wrap_nat (n := k + 1) (by omega)
  have k1 : (k : Int) < N := by omega
  have k3 : (0 : Int) ≤ k ∧ (k : Int) < N := by omega
  have ha := abs_small hv
  by_cases q : v = 0
  · simp -implicitDefEqProofs only [f9_6, f9_6_0, asI_i, asN_n, asL_l, asB_b, asE_nil, Bool.cond_decide, if_pos k1, if_pos k3, Int.toNat_natCast, hx, optK_some, altK_0, altK_1, lv_0, lv_1, lv_2, lv_3, lv_4, w1, w2, w3, w4, w5, w6, w7, w8, wk, stp, ha, lv_5z _ _ _ _ _ _ _ _ _ _ _ _ _ _ _ _ _ _ _ _ _ _ _ _ _ _ _ _ _ q]
    generalize v * v = qq at *
    generalize sgV v = g at *
    split
    all_goals
      simp -implicitDefEqProofs only [Option.some.injEq, Prod.mk.injEq, List.cons.injEq, Leaf.i.injEq, true_and, and_true]
      refine ⟨?_, ?_, ?_, ?_, ?_, ?_, ?_⟩ <;> (repeat' split) <;> omega
  · simp -implicitDefEqProofs only [f9_6, f9_6_0, asI_i, asN_n, asL_l, asB_b, asE_nil, Bool.cond_decide, if_pos k1, if_pos k3, Int.toNat_natCast, hx, optK_some, altK_0, altK_1, lv_0, lv_1, lv_2, lv_3, lv_4, w1, w2, w3, w4, w5, w6, w7, w8, wk, stp, ha, lv_5n _ _ _ _ _ _ _ _ _ _ _ _ _ _ _ _ _ _ _ _ _ _ _ _ _ _ _ _ _ q]
    generalize v * v = qq at *
    generalize sgV v = g at *
    split
    all_goals
      simp -implicitDefEqProofs only [Option.some.injEq, Prod.mk.injEq, List.cons.injEq, Leaf.i.injEq, true_and, and_true]
      refine ⟨?_, ?_, ?_, ?_, ?_, ?_, ?_⟩ <;> (repeat' split) <;> omega
theorem of_ok (l : List Int) (N : Nat) (hl : l.length = N) (hm : N ≤ 1000) (F : Nat → Int) (hFe : F = fun k => l.getD k 0) (hF : ∀ k, Small (F k)) : g11 (0, [.n N, .l l]) = some (0, [.i (lvK F N).n, .i (lvK F N).pk, .i (lvK F N).lo, .i (lvK F N).hi, .i (lvK F N).sm, .i (lvK F N).pw, .i (lvK F N).cr, .i (lvK F N).cl, .i (lvK F N).ru, .l l]) := by
  have hL : L11_3 (0, [.i 0, .i 0, .n N, .i N, .i 0, .l l, .i 0, .i 0, .i 0, .i 0, .i 0, .i 0, .i 0, .i 0, .i 0, .i 0, .i 0, .i 0, .i 0, .i 0, .i 0, .i 0, .i 0, .i 0]) = some (0, [.l l, .i 0, .i 0, .i 0, .i 0, .i 0, .i 0, .i 0, .i 0, .i 0, .i (lvK F N).n, .i (lvK F N).pk, .i (lvK F N).lo, .i (lvK F N).hi, .i (lvK F N).sm, .i (lvK F N).pw, .i (lvK F N).cr, .i (lvK F N).cl, .i (lvK F N).ru]) := by
    refine loopL_run (m := 2) (f := f11_3) (fun k => (0, [.i (lvK F k).last, .i (lvK F k).row, .n N, .i N, .i k, .l l, .i 0, .i 0, .i 0, .i 0, .i 0, .i 0, .i 0, .i 0, .i 0, .i (lvK F k).n, .i (lvK F k).pk, .i (lvK F k).lo, .i (lvK F k).hi, .i (lvK F k).sm, .i (lvK F k).pw, .i (lvK F k).cr, .i (lvK F k).cl, .i (lvK F k).ru])) N (fun k hk => ⟨?_, by show 0 < 2; omega⟩) ?_ (by omega)
    · have hx : l[k]? = some (F k) := by rw [hFe]; exact get_some (by omega)
      exact of_step hk hm (lvK_inv F k fun i _ => hF i) (hF k) l hx
    · simp -implicitDefEqProofs only [f11_3, f11_3_0, asI_i, asN_n, asL_l, asB_b, asE_nil, Bool.cond_decide, if_neg (Int.lt_irrefl _)]
  simp -implicitDefEqProofs only [g11, g11_0, asI_i, asN_n, asL_l, asB_b, asE_nil, Bool.cond_decide, hL, altK_0]
theorem lv_ok (l : List Int) (N : Nat) (hl : l.length = N) (hm : N ≤ 1000) (F : Nat → Int) (hFe : F = fun k => l.getD k 0) (hF : ∀ k, Small (F k)) : g9 (0, [.n N, .l l]) = some (0, [.i (lvK F N).n, .i (lvK F N).pk, .i (lvK F N).lo, .i (lvK F N).hi, .i (lvK F N).sm, .i (lvK F N).pw, .i (lvK F N).cr, .i (lvK F N).cl, .i (lvK F N).ru, .l l]) := by
  have hL : L9_6 (0, [.n N, .i 0, .i 0, .i 0, .l l, .i 0, .i 0, .i 0, .i 0, .i 0, .i 0, .i 0, .i 0, .i 0, .i 0, .i 0, .i 0, .i 0, .i 0, .i 0, .i 0, .i 0, .i 0]) = some (0, [.l l, .i 0, .i 0, .i 0, .i 0, .i 0, .i 0, .i 0, .i 0, .i 0, .i (lvK F N).n, .i (lvK F N).pk, .i (lvK F N).lo, .i (lvK F N).hi, .i (lvK F N).sm, .i (lvK F N).pw, .i (lvK F N).cr, .i (lvK F N).cl, .i (lvK F N).ru]) := by
    refine loopL_run (m := 2) (f := f9_6) (fun k => (0, [.n N, .i (lvK F k).last, .i (lvK F k).row, .i k, .l l, .i 0, .i 0, .i 0, .i 0, .i 0, .i 0, .i 0, .i 0, .i 0, .i (lvK F k).n, .i (lvK F k).pk, .i (lvK F k).lo, .i (lvK F k).hi, .i (lvK F k).sm, .i (lvK F k).pw, .i (lvK F k).cr, .i (lvK F k).cl, .i (lvK F k).ru])) N (fun k hk => ⟨?_, by show 0 < 2; omega⟩) ?_ (by omega)
    · have hx : l[k]? = some (F k) := by rw [hFe]; exact get_some (by omega)
      exact lv_step hk hm (lvK_inv F k fun i _ => hF i) (hF k) l hx
    · simp -implicitDefEqProofs only [f9_6, f9_6_0, asI_i, asN_n, asL_l, asB_b, asE_nil, Bool.cond_decide, if_neg (Int.lt_irrefl _)]
  simp -implicitDefEqProofs only [g9, g9_0, asI_i, asN_n, asL_l, asB_b, asE_nil, Bool.cond_decide, hL, altK_0]
end Go.Proofs.Ytjekhbenohnpnaa
