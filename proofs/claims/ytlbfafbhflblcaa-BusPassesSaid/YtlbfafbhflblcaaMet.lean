/-
  What samples are like, counted one by one. Conditions: none.
-/
import Derived.Test.YtlbfafbhflblcaaNumc
namespace Go.Proofs.Ytlbfafbhflblcaa
open Go Go.Sx P
set_option maxRecDepth 100000
set_option linter.unusedVariables false
attribute [local simp] asI_i Zc Zd Zb ZQ Zj Zh Ze3 Za Zat Zk ZF Z0 Zag ZH Zau Bool.cond_decide Bool.cond_not Int.toNat_natCast
set_option linter.unusedSimpArgs false
namespace Me
structure Lv where
  n : Int
  pk : Int
  lo : Int
  hi : Int
  sm : Int
  pw : Int
  cr : Int
  cl : Int
  ru : Int
  last : Int
  row : Int
def lv0 : Lv := ⟨0, 0, 0, 0, 0, 0, 0, 0, 0, 0, 0⟩
def sgV (v : Int) : Int := ZbS v (-1) 1
theorem Zli (v : Int) : (v < 0 ∧ sgV v = -1) ∨ (v = 0 ∧ sgV v = 0) ∨ (0 < v ∧ sgV v = 1) := by
  unfold sgV ZbS
  repeat' split
  all_goals omega
def Small (v : Int) : Prop := -1048576 ≤ v ∧ v ≤ 1048576
def stp (k : Nat) (s : Lv) (v : Int) : Lv :=
  ⟨s.n + 1, if absV v > s.pk then absV v else s.pk,
   if v < (if (k : Int) = 0 then v else s.lo) then v else (if (k : Int) = 0 then v else s.lo),
   if v > (if (k : Int) = 0 then v else s.hi) then v else (if (k : Int) = 0 then v else s.hi),
   s.sm + v, s.pw + v * v,
   if sgV v ≠ 0 ∧ s.last ≠ 0 ∧ sgV v ≠ s.last then s.cr + 1 else s.cr,
   if v ≤ -32768 ∨ 32767 ≤ v then s.cl + 1 else s.cl,
   if sgV v ≠ 0 then (if 0 > s.ru then 0 else s.ru) else (if s.row + 1 > s.ru then s.row + 1 else s.ru),
   if sgV v ≠ 0 then sgV v else s.last,
   if sgV v ≠ 0 then 0 else s.row + 1⟩
def Inv (k : Nat) (s : Lv) : Prop :=
  s.n = k ∧ (0 ≤ s.pk ∧ s.pk ≤ 1048576) ∧ (-1048576 ≤ s.lo ∧ s.lo ≤ 1048576) ∧ (-1048576 ≤ s.hi ∧ s.hi ≤ 1048576) ∧ (-(1048576 * (k : Int)) ≤ s.sm ∧ s.sm ≤ 1048576 * (k : Int)) ∧
  (0 ≤ s.pw ∧ s.pw ≤ 1099511627776 * (k : Int)) ∧ (0 ≤ s.cr ∧ s.cr ≤ k) ∧ (0 ≤ s.cl ∧ s.cl ≤ k) ∧ (0 ≤ s.ru ∧ s.ru ≤ k) ∧ (s.last = -1 ∨ s.last = 0 ∨ s.last = 1) ∧ (0 ≤ s.row ∧ s.row ≤ k)
theorem Zoe : Inv 0 lv0 := by unfold Inv lv0; simp
theorem ZnM {v : Int} (h : Small v) : 0 ≤ v * v ∧ v * v ≤ 1099511627776 := by
  unfold Small at h
  refine ⟨?_, ?_⟩
  · rcases Int.le_total 0 v with c | c
    · exact Int.mul_nonneg c c
    · exact Int.mul_nonneg_of_nonpos_of_nonpos c c
  · rcases Int.le_total 0 v with c | c
    · exact Int.mul_le_mul h.2 h.2 c (by omega)
    · have := Int.mul_le_mul (show -v ≤ 1048576 by omega) (show -v ≤ 1048576 by omega) (show 0 ≤ -v by omega) (by omega)
      rwa [Int.neg_mul_neg] at this
theorem Zlj {v : Int} (h : Small v) : absV v = (if v < 0 then 0 - v else v) := by
  unfold Small at h
  unfold absV
  rw [if_neg (by omega)]
theorem Zma {k : Nat} {s : Lv} {v : Int} (h : Inv k s) (hv : Small v) : Inv (k + 1) (stp k s v) := by
  have hq := ZnM hv
  have ha := Zlj hv
  have hs := Zli v
  unfold Small at hv
  unfold Inv at h ⊢
  obtain ⟨n, pk, lo, hi, sm, pw, cr, cl, ru, last, row⟩ := s
  simp only [stp] at h ⊢
  rw [ha]
  generalize v * v = q at *
  generalize sgV v = g at *
  obtain ⟨i1, i2, i3, i4, i5, i6, i7, i8, i9, i10, i11⟩ := h
  refine ⟨by omega, ?_, ?_, ?_, by omega, by omega, ?_, ?_, ?_, ?_, ?_⟩ <;> (repeat' split) <;> omega
def lvK (F : Nat → Int) : Nat → Lv
  | 0 => lv0
  | k + 1 => stp k (lvK F k) (F k)
theorem Zlk (F : Nat → Int) : ∀ k, (∀ i, i < k → Small (F i)) → Inv k (lvK F k)
  | 0, _ => Zoe
  | k + 1, h => Zma (Zlk F k fun i hi => h i (by omega)) (h k (by omega))
theorem of_0 (t4 t5 t6 t7 : Int) (t9 : Nat) (t10 t11 : Int) (l : List Int) (z0 z1 z2 z3 z4 z5 z6 z7 z8 n pk lo hi sm pw cr cl ru : Int) : ZkZ (0, I4 t4 t5 t6 t7 (.n t9 :: .i t10 :: .i t11 :: .l l :: I16 z0 z1 z2 z3 z4 z5 z6 z7 z8 n pk lo hi sm pw cr [.i cl, .i ru])) = some (0, I4 t4 t5 t6 t7 (.n t9 :: .i t10 :: .i t11 :: .b (decide (t6 = 0)) :: .l l :: I16 z0 z1 z2 z3 z4 z5 z6 z7 z8 n pk (if t6 = 0 then t7 else lo) (if t6 = 0 then t7 else hi) sm pw cr [.i cl, .i ru])) := by
  simp -implicitDefEqProofs only [ZkZ, f18_0_0, asI_i, Zc, Zd, Zb, I4, I8, I16, Zh, Zj, ZQ, Za, Bool.cond_decide]
  by_cases c : t6 = 0
  · rw [if_pos c, if_pos c, if_pos c, decide_eq_true c]
  · rw [if_neg c, if_neg c, if_neg c, decide_eq_false c]
theorem of_1 (t4 t5 t6 t7 : Int) (t9 : Nat) (t10 t11 : Int) (b1 : Bool) (l : List Int) (z0 z1 z2 z3 z4 z5 z6 z7 z8 n pk lo hi sm pw cr cl ru : Int) : Zk0 (0, I4 t4 t5 t6 t7 (.n t9 :: .i t10 :: .i t11 :: .b b1 :: .l l :: I16 z0 z1 z2 z3 z4 z5 z6 z7 z8 n pk lo hi sm pw cr [.i cl, .i ru])) = some (0, I4 t4 t5 t6 t7 (.n t9 :: .i t10 :: .i t11 :: .b b1 :: .b (decide (t7 ≤ -32768 ∨ 32767 ≤ t7)) :: .l l :: I16 z0 z1 z2 z3 z4 z5 z6 z7 z8 n pk lo hi sm pw cr [.i (if t7 ≤ -32768 ∨ 32767 ≤ t7 then IntKind.i64.wrap (cl + 1) else cl), .i ru])) := by
  simp -implicitDefEqProofs only [Zk0, f18_1_0, asI_i, Zc, Zd, Zb, I4, I8, I16, Zh, Zj, ZQ, Za, Bool.cond_decide]
  by_cases c : t7 ≤ -32768
  · rw [if_pos c, if_pos (Or.inl c), decide_eq_true (Or.inl c)]
  · rw [if_neg c]
    by_cases c2 : 32767 ≤ t7
    · rw [if_pos c2, if_pos (Or.inr c2), decide_eq_true (Or.inr c2)]
    · rw [if_neg c2, if_neg (by omega), decide_eq_false (by omega)]
theorem of_2 (t4 t5 t6 t7 t8 : Int) (t9 : Nat) (t10 t11 : Int) (b1 b2 : Bool) (l : List Int) (z0 z1 z2 z3 z4 z5 z6 z7 z8 n pk lo hi sm pw cr cl ru : Int) : Zk1 (0, I4 t4 t5 t6 t7 (.i t8 :: .n t9 :: .i t10 :: .i t11 :: .b b1 :: .b b2 :: .l l :: I16 z0 z1 z2 z3 z4 z5 z6 z7 z8 n pk lo hi sm pw cr [.i cl, .i ru])) = some (0, I4 t4 t5 t6 t7 (.i t8 :: .n t9 :: .i t10 :: .i t11 :: .b b1 :: .b b2 :: .b (decide (t8 ≠ 0 ∧ t4 ≠ 0 ∧ t8 ≠ t4)) :: .l l :: I16 z0 z1 z2 z3 z4 z5 z6 z7 z8 n pk lo hi sm pw (if t8 ≠ 0 ∧ t4 ≠ 0 ∧ t8 ≠ t4 then IntKind.i64.wrap (cr + 1) else cr) [.i cl, .i ru])) := by
  simp -implicitDefEqProofs only [Zk1, f18_2_0, asI_i, Zc, Zd, Zb, I4, I8, I16, Zh, Zj, ZQ, Za, Bool.cond_decide]
  by_cases c : t8 ≠ 0 ∧ t4 ≠ 0 ∧ t8 ≠ t4
  · rw [if_pos c.1, if_pos c.2.1, if_pos c.2.2, if_pos c, decide_eq_true c]
  · rw [decide_eq_false c, if_neg c]
    repeat' split
    all_goals first | rfl | exact absurd (And.intro (by assumption) (And.intro (by assumption) (by assumption))) c
theorem Znd (v : Int) : g30 (0, [.i v]) = some (0, [.i (sgV v)]) := by
  simp -implicitDefEqProofs only [g30, g30_0, asI_i, Zc, Zd, Zb, I4, I8, I16, Za, Zgg, Zk, sgV]
theorem Zne {k N : Nat} (hk : k < N) (hm : N ≤ 1000) {s : Lv} (h : Inv k s) {v : Int} (hv : Small v) (l : List Int) (hx0 : l[k]? = some v) : f18_3 (0, .i s.last :: .i s.row :: .n N :: .i N :: .i k :: .l l :: I16 0 0 0 0 0 0 0 0 0 s.n s.pk s.lo s.hi s.sm s.pw s.cr [.i s.cl, .i s.ru]) = some (0, .i (stp k s v).last :: .i (stp k s v).row :: .n N :: .i N :: .i (k + 1 : Nat) :: .l l :: I16 0 0 0 0 0 0 0 0 0 (stp k s v).n (stp k s v).pk (stp k s v).lo (stp k s v).hi (stp k s v).sm (stp k s v).pw (stp k s v).cr [.i (stp k s v).cl, .i (stp k s v).ru]) := by
  have hq := ZnM hv
  have hsg := Zli v
  have hx := hx0
  unfold Inv at h
  have hv' := hv
  unfold Small at hv'
  obtain ⟨n, pk, lo, hi, sm, pw, cr, cl, ru, last, row⟩ := s
  simp only [] at h
  obtain ⟨i1, i2, i3, i4, i5, i6, i7, i8, i9, i10, i11⟩ := h
  have w1 : IntKind.i64.wrap (n + 1) = n + 1 := wrap64 (by omega) (by omega)
  have w2 : IntKind.i64.wrap (sm + v) = sm + v := wrap64 (by omega) (by omega)
  have w3 : IntKind.i64.wrap (v * v) = v * v := wrap64 (by omega) (by omega)
  have w4 : IntKind.i64.wrap (pw + v * v) = pw + v * v := wrap64 (by omega) (by omega)
  have w5 : IntKind.i64.wrap (cl + 1) = cl + 1 := wrap64 (by omega) (by omega)
  have w6 : IntKind.i64.wrap (cr + 1) = cr + 1 := wrap64 (by omega) (by omega)
  have w7 : IntKind.i64.wrap (row + 1) = row + 1 := wrap64 (by omega) (by omega)
  have w8 : IntKind.i64.wrap (0 - v) = 0 - v := wrap64 (by omega) (by omega)
  have wk : IntKind.i64.wrap ((k : Int) + 1) = ((k + 1 : Nat) : Int) := Z6 (n := k + 1) (by omega)
  have k1 : (k : Int) < N := by omega
  have k3 : (0 : Int) ≤ k ∧ (k : Int) < N := by omega
  have habs := ZnJ v (by unfold In64; omega)
  simp -implicitDefEqProofs only [f18_3, f18_3_0, asI_i, Zc, Zd, Zb, I4, I8, I16, Zh, Zj, ZQ, Za, Bool.cond_decide, if_pos k1, if_pos k3, Int.toNat_natCast, hx, ZH, habs, Zk, of_0, of_1, of_2, Znd, w1, w2, w3, w4, w5, w6, w7, wk, stp]
  by_cases q : sgV v ≠ 0
  · rw [if_pos q, if_pos q, if_pos q, if_pos q]
  · rw [if_neg q, if_neg q, if_neg q, if_neg q]
theorem of_ok (l : List Int) (N : Nat) (hl : l.length = N) (hm : N ≤ 1000) (F : Nat → Int) (hFe : F = fun k => l.getD k 0) (hF : ∀ k, Small (F k)) : g18 (0, [.n N, .l l]) = some (0, I8 (lvK F N).n (lvK F N).pk (lvK F N).lo (lvK F N).hi (lvK F N).sm (lvK F N).pw (lvK F N).cr (lvK F N).cl [.i (lvK F N).ru, .l l]) := by
  have hL : Zk2 (0, .i 0 :: .i 0 :: .n N :: .i N :: .i 0 :: .l l :: I16 0 0 0 0 0 0 0 0 0 0 0 0 0 0 0 0 [.i 0, .i 0]) = some (0, .l l :: I16 0 0 0 0 0 0 0 0 0 (lvK F N).n (lvK F N).pk (lvK F N).lo (lvK F N).hi (lvK F N).sm (lvK F N).pw (lvK F N).cr [.i (lvK F N).cl, .i (lvK F N).ru]) := by
    refine Zp (m := 2) (f := f18_3) (fun k => (0, .i (lvK F k).last :: .i (lvK F k).row :: .n N :: .i N :: .i k :: .l l :: I16 0 0 0 0 0 0 0 0 0 (lvK F k).n (lvK F k).pk (lvK F k).lo (lvK F k).hi (lvK F k).sm (lvK F k).pw (lvK F k).cr [.i (lvK F k).cl, .i (lvK F k).ru])) N (fun k hk => ⟨?_, by show 0 < 2; omega⟩) ?_ (by omega)
    · have hx : l[k]? = some (F k) := by rw [hFe]; exact ZbO (by omega)
      exact Zne hk hm (Zlk F k fun i _ => hF i) (hF k) l hx
    · simp -implicitDefEqProofs only [f18_3, f18_3_0, asI_i, Zc, Zd, Zb, I4, I8, I16, Zh, Zj, ZQ, Za, Bool.cond_decide, if_neg (Int.lt_irrefl _)]
  simp -implicitDefEqProofs only [g18, g18_0, asI_i, Zc, Zd, Zb, I4, I8, I16, Zh, Zj, ZQ, Za, Bool.cond_decide, hL, Zk]
end Me
end Go.Proofs.Ytlbfafbhflblcaa
