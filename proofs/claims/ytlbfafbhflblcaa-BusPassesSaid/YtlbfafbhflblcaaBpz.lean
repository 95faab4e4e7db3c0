/-
  What any bus makes of any samples, in whatever parts they pass, and how loud that is: the whole law. Conditions: none.
-/
import Derived.Test.YtlbfafbhflblcaaBp
namespace Go.Proofs.Ytlbfafbhflblcaa
open Go Go.Sx P
open Q R
set_option maxRecDepth 100000
set_option linter.unusedVariables false
attribute [local simp] asI_i Zc Zd Zb ZQ Zj Zh Ze3 Za Zat Zk ZF Z0 Zag ZH Zau Bool.cond_decide Bool.cond_not Int.toNat_natCast
set_option linter.unusedSimpArgs false
theorem ZeZ (a : List Int) (k : Nat) : g11 (0, I8 (a.getD (k * 10) 0) (a.getD (k * 10 + 1) 0) (a.getD (k * 10 + 2) 0) (a.getD (k * 10 + 3) 0) (a.getD (k * 10 + 4) 0) (a.getD (k * 10 + 5) 0) (a.getD (k * 10 + 6) 0) (a.getD (k * 10 + 7) 0) [.i (a.getD (k * 10 + 8) 0), .i (a.getD (k * 10 + 9) 0)]) = some (0, [.b (decide (ptAt a k).ok)]) := Zlr (a.getD (k * 10) 0) (a.getD (k * 10 + 1) 0) (a.getD (k * 10 + 2) 0) (a.getD (k * 10 + 3) 0) (a.getD (k * 10 + 4) 0) (a.getD (k * 10 + 5) 0) (a.getD (k * 10 + 6) 0) (a.getD (k * 10 + 7) 0) (a.getD (k * 10 + 8) 0) (a.getD (k * 10 + 9) 0)
def okK (a : List Int) : Nat → Bool
  | 0 => true
  | k + 1 => cond (okK a k) (decide (ptAt a k).ok) false
theorem Zh1 {a : List Int} : ∀ {n : Nat}, okK a n = true → ∀ k, k < n → (ptAt a k).ok
  | 0, _, k, hk => absurd hk (Nat.not_lt_zero _)
  | n + 1, h, k, hk => by
    unfold okK at h
    cases c : okK a n with
    | false => rw [c] at h; cases h
    | true =>
      rw [c, cond_true] at h
      by_cases e : k = n
      · subst e; exact of_decide_eq_true h
      · exact Zh1 c k (by omega)
theorem ZmG {a : List Int} : ∀ {n : Nat}, okK a n = false → ∃ j, j < n ∧ (∀ k, k < j → (ptAt a k).ok) ∧ ¬ (ptAt a j).ok
  | 0, h => by cases h
  | n + 1, h => by
    unfold okK at h
    cases c : okK a n with
    | false =>
      obtain ⟨j, h1, h2, h3⟩ := ZmG c
      exact ⟨j, by omega, h2, h3⟩
    | true =>
      rw [c, cond_true] at h
      exact ⟨n, by omega, Zh1 c, of_decide_eq_false h⟩
theorem Zn5 {n : Nat} (hn : n ≤ 20) {a : List Int} (ha : a.length = n * 10) (m : Nat) (Q : List NC) (e : Int) : L4_1 (0, [.n n, .l a, .n m, .x Q, .i e, .b true, .i 0]) = some (0, [.n n, .l a, .n m, .x Q, .i e, .b (okK a n)]) := by
  refine Zp (m := 3) (f := f4_1) (fun k => (0, [.n n, .l a, .n m, .x Q, .i e, .b (okK a k), .i k])) n (fun k hk => ⟨?_, by show 0 < 3; omega⟩) ?_ (by omega)
  · have w2 : IntKind.i64.wrap ((k : Int) + 1) = ((k + 1 : Nat) : Int) := Z6 (n := k + 1) (by omega)
    have i1 : (k : Int) < n := by omega
    have i2 : (0 : Int) ≤ k ∧ (k : Int) < n := by omega
    have i3 : k * 10 + 10 ≤ a.length := by omega
    have r1 := Zdm a k
    have r2 := ZeZ a k
    have ek : okK a (k + 1) = cond (okK a k) (decide (ptAt a k).ok) false := rfl
    simp -implicitDefEqProofs only [f4_1, f4_1_0, asI_i, Zc, Zd, Zb, I4, I8, I16, Zh, Zj, Zv, Zar, ZQ, Za, Bool.cond_decide, if_pos i1, if_pos i2, if_pos i3, Int.toNat_natCast, r1, r2, Zk, ne_eq, not_true_eq_false, if_false, w2, ek]
    cases okK a k <;> rfl
  · simp -implicitDefEqProofs only [f4_1, f4_1_0, asI_i, Zc, Zd, Zb, I4, I8, I16, Zh, Zj, Zv, Zar, ZQ, Za, Bool.cond_decide, if_neg (Int.lt_irrefl _)]
theorem Zon {n : Nat} (hn : n ≤ 20) {a : List Int} (ha : a.length = n * 10) (m : Nat) (Q : List NC) (e : Int) (v1 v2 v3 v4 v5 v6 v7 v8 v9 v10 v11 v12 v13 v14 v15 v16 v17 v18 v19 : Int) : L4_1 (1, .n n :: .l a :: .n m :: .x Q :: .i e :: .b true :: I16 0 v1 v2 v3 v4 v5 v6 v7 v8 v9 v10 v11 v12 v13 v14 v15 (I4 v16 v17 v18 v19 [])) = some (2, .n n :: .l a :: .n m :: .x Q :: .i e :: .b (okK a n) :: I16 v1 v2 v3 v4 v5 v6 v7 v8 v9 v10 v11 v12 v13 v14 v15 v16 [.i v17, .i v18, .i v19]) := by
  refine Zp (m := 3) (f := f4_1) (fun k => (1, .n n :: .l a :: .n m :: .x Q :: .i e :: .b (okK a k) :: I16 k v1 v2 v3 v4 v5 v6 v7 v8 v9 v10 v11 v12 v13 v14 v15 (I4 v16 v17 v18 v19 []))) n (fun k hk => ⟨?_, by show 1 < 3; omega⟩) ?_ (by omega)
  · have w2 : IntKind.i64.wrap ((k : Int) + 1) = ((k + 1 : Nat) : Int) := Z6 (n := k + 1) (by omega)
    have i1 : (k : Int) < n := by omega
    have i2 : (0 : Int) ≤ k ∧ (k : Int) < n := by omega
    have i3 : k * 10 + 10 ≤ a.length := by omega
    have r1 := Zdm a k
    have r2 := ZeZ a k
    have ek : okK a (k + 1) = cond (okK a k) (decide (ptAt a k).ok) false := rfl
    simp -implicitDefEqProofs only [f4_1, f4_1_1, asI_i, Zc, Zd, Zb, I4, I8, I16, Zh, Zj, Zv, Zar, ZQ, Za, Bool.cond_decide, if_pos i1, if_pos i2, if_pos i3, Int.toNat_natCast, r1, r2, Zk, ne_eq, not_true_eq_false, if_false, w2, ek]
    cases okK a k <;> rfl
  · simp -implicitDefEqProofs only [f4_1, f4_1_1, asI_i, Zc, Zd, Zb, I4, I8, I16, Zh, Zj, Zv, Zar, ZQ, Za, Bool.cond_decide, if_neg (Int.lt_irrefl _)]
theorem Zoo {n : Nat} (hn : n ≤ 20) {a : List Int} (ha : a.length = n * 10) (m : Nat) (Q : List NC) (e : Int) (N : Nat) (v1 v2 v3 v4 v5 v6 v7 v8 v9 v10 v11 v12 v13 v14 v15 v16 v17 v18 v19 : Int) (h : List ME) : L4_1 (2, .n n :: .l a :: .n m :: .x Q :: .i e :: .b true :: .i 0 :: .n N :: I16 v1 v2 v3 v4 v5 v6 v7 v8 v9 v10 v11 v12 v13 v14 v15 v16 [.i v17, .i v18, .i v19, .t h]) = some (4, .n n :: .l a :: .n m :: .x Q :: .i e :: .b (okK a n) :: .n N :: I16 v1 v2 v3 v4 v5 v6 v7 v8 v9 v10 v11 v12 v13 v14 v15 v16 [.i v17, .i v18, .i v19, .t h]) := by
  refine Zp (m := 3) (f := f4_1) (fun k => (2, .n n :: .l a :: .n m :: .x Q :: .i e :: .b (okK a k) :: .i k :: .n N :: I16 v1 v2 v3 v4 v5 v6 v7 v8 v9 v10 v11 v12 v13 v14 v15 v16 [.i v17, .i v18, .i v19, .t h])) n (fun k hk => ⟨?_, by show 2 < 3; omega⟩) ?_ (by omega)
  · have w2 : IntKind.i64.wrap ((k : Int) + 1) = ((k + 1 : Nat) : Int) := Z6 (n := k + 1) (by omega)
    have i1 : (k : Int) < n := by omega
    have i2 : (0 : Int) ≤ k ∧ (k : Int) < n := by omega
    have i3 : k * 10 + 10 ≤ a.length := by omega
    have r1 := Zdm a k
    have r2 := ZeZ a k
    have ek : okK a (k + 1) = cond (okK a k) (decide (ptAt a k).ok) false := rfl
    simp -implicitDefEqProofs only [f4_1, f4_1_2, asI_i, Zc, Zd, Zb, I4, I8, I16, Zh, Zj, Zv, Zar, ZQ, Za, Bool.cond_decide, if_pos i1, if_pos i2, if_pos i3, Int.toNat_natCast, r1, r2, Zk, ne_eq, not_true_eq_false, if_false, w2, ek]
    cases okK a k <;> rfl
  · simp -implicitDefEqProofs only [f4_1, f4_1_2, asI_i, Zc, Zd, Zb, I4, I8, I16, Zh, Zj, Zv, Zar, ZQ, Za, Bool.cond_decide, if_neg (Int.lt_irrefl _)]
def plK (E : List ME) : Nat → List Int
  | 0 => []
  | k + 1 => plK E k ++ [Z1 (E.getD k default) 0, Z1 (E.getD k default) 1, Z1 (E.getD k default) 2, Z1 (E.getD k default) 3, Z1 (E.getD k default) 4, Z1 (E.getD k default) 5, Z1 (E.getD k default) 6, Z1 (E.getD k default) 7, Z1 (E.getD k default) 8, Z1 (E.getD k default) 9]
theorem Zly (E : List ME) : ∀ k, (plK E k).length = k * 10
  | 0 => rfl
  | k + 1 => by rw [plK, List.length_append, Zly E k]; show k * 10 + 10 = _; omega
theorem Zmi (s : Sg) : Zfu 10 14 s.toS = true := by
  unfold Sg.toS
  split <;> split <;> rfl
def prS (N : Nat) (E : List ME) (v1 v2 v3 v4 v5 v6 v7 v8 v9 v10 v11 v12 v13 v14 v15 v16 v17 v18 v19 : Int) : Nat → Nat × List Leaf
  | 0 => (0, .n N :: .i N :: .i (0 : Nat) :: .n N :: I16 v1 v2 v3 v4 v5 v6 v7 v8 v9 v10 v11 v12 v13 v14 v15 v16 [.i v17, .i v18, .i v19, .t E])
  | k + 1 => (2, .n (k + 1) :: .n N :: .i N :: .i (k + 1 : Nat) :: .n N :: I16 v1 v2 v3 v4 v5 v6 v7 v8 v9 v10 v11 v12 v13 v14 v15 v16 [.i v17, .i v18, .i v19, .t E, .l (plK E (k + 1))])
theorem Zcj {N : Nat} (h0 : N ≠ 0) (hm : N ≤ 16) (ss : List Sg) (hN : ss.length = N) (v1 v2 v3 v4 v5 v6 v7 v8 v9 v10 v11 v12 v13 v14 v15 v16 v17 v18 v19 : Int) : g12 (0, .n N :: I16 v1 v2 v3 v4 v5 v6 v7 v8 v9 v10 v11 v12 v13 v14 v15 v16 [.i v17, .i v18, .i v19, .t (ss.map Sg.toS)]) = some (1, .n N :: .n N :: I16 v1 v2 v3 v4 v5 v6 v7 v8 v9 v10 v11 v12 v13 v14 v15 v16 [.i v17, .i v18, .i v19, .t (ss.map Sg.toS), .l (plK (ss.map Sg.toS) N)]) := by
  obtain ⟨q, rfl⟩ : ∃ q, N = q + 1 := ⟨N - 1, by omega⟩
  have hL : Zjw (prS (q + 1) (ss.map Sg.toS) v1 v2 v3 v4 v5 v6 v7 v8 v9 v10 v11 v12 v13 v14 v15 v16 v17 v18 v19 0) = some (2, .n (q + 1) :: .n (q + 1) :: I16 v1 v2 v3 v4 v5 v6 v7 v8 v9 v10 v11 v12 v13 v14 v15 v16 [.i v17, .i v18, .i v19, .t (ss.map Sg.toS), .l (plK (ss.map Sg.toS) (q + 1))]) := by
    refine Zp (m := 3) (f := f12_0) (prS (q + 1) (ss.map Sg.toS) v1 v2 v3 v4 v5 v6 v7 v8 v9 v10 v11 v12 v13 v14 v15 v16 v17 v18 v19) (q + 1) (fun k hk => ?_) ?_ (by omega)
    · have w2 : IntKind.i64.wrap ((k : Int) + 1) = ((k + 1 : Nat) : Int) := Z6 (n := k + 1) (by omega)
      have i1 : (k : Int) < (q + 1 : Nat) := by omega
      have i2 : (0 : Int) ≤ k ∧ (k : Int) < (q + 1 : Nat) := by omega
      have d1 : k * 14 % 14 = 0 := Nat.mul_mod_left k 14
      have d2 : k * 14 / 14 = k := Nat.mul_div_cancel k (by omega)
      have hg : (ss.map Sg.toS)[k]? = some ((ss.getD k default).toS) := by rw [List.getElem?_map, ZfA (by omega)]; rfl
      have hgd : (ss.map Sg.toS).getD k default = (ss.getD k default).toS := by rw [List.getD_eq_getElem?_getD, hg]; rfl
      have hi := Zmi (ss.getD k default)
      match k, hk, w2, i1, i2, d1, d2, hg, hgd, hi with
      | 0, hk, w2, i1, i2, d1, d2, hg, hgd, hi =>
        refine ⟨?_, by show 2 < 3; omega⟩
        have e : plK (ss.map Sg.toS) (0 + 1) = [Z1 ((ss.map Sg.toS).getD 0 default) 0, Z1 ((ss.map Sg.toS).getD 0 default) 1, Z1 ((ss.map Sg.toS).getD 0 default) 2, Z1 ((ss.map Sg.toS).getD 0 default) 3, Z1 ((ss.map Sg.toS).getD 0 default) 4, Z1 ((ss.map Sg.toS).getD 0 default) 5, Z1 ((ss.map Sg.toS).getD 0 default) 6, Z1 ((ss.map Sg.toS).getD 0 default) 7, Z1 ((ss.map Sg.toS).getD 0 default) 8, Z1 ((ss.map Sg.toS).getD 0 default) 9] := rfl
        simp -implicitDefEqProofs only [prS, f12_0, f12_0_0, asI_i, Zc, Zd, Zb, I4, I8, I16, Zh, Zj, Zv, Zar, ZQ, Za, Bool.cond_decide, if_pos i1, if_pos i2, Int.toNat_natCast, if_pos d1, d2, hg, ZH, if_pos hi, w2, e, hgd]
        try rfl
      | k + 1, hk, w2, i1, i2, d1, d2, hg, hgd, hi =>
        refine ⟨?_, by show 2 < 3; omega⟩
        have e : plK (ss.map Sg.toS) (k + 1 + 1) = plK (ss.map Sg.toS) (k + 1) ++ [Z1 ((ss.map Sg.toS).getD (k + 1) default) 0, Z1 ((ss.map Sg.toS).getD (k + 1) default) 1, Z1 ((ss.map Sg.toS).getD (k + 1) default) 2, Z1 ((ss.map Sg.toS).getD (k + 1) default) 3, Z1 ((ss.map Sg.toS).getD (k + 1) default) 4, Z1 ((ss.map Sg.toS).getD (k + 1) default) 5, Z1 ((ss.map Sg.toS).getD (k + 1) default) 6, Z1 ((ss.map Sg.toS).getD (k + 1) default) 7, Z1 ((ss.map Sg.toS).getD (k + 1) default) 8, Z1 ((ss.map Sg.toS).getD (k + 1) default) 9] := rfl
        have c2 := Zly (ss.map Sg.toS) (k + 1)
        simp -implicitDefEqProofs only [prS, f12_0, f12_0_2, asI_i, Zc, Zd, Zb, I4, I8, I16, Zh, Zj, Zv, Zar, ZQ, Za, Bool.cond_decide, if_pos i1, if_pos i2, Int.toNat_natCast, if_pos d1, d2, hg, ZH, if_pos hi, if_pos (show (k + 1 + 1) * 80 ≤ 70368744177664 by omega), if_pos c2, w2, e, hgd]
    · simp -implicitDefEqProofs only [prS, f12_0, f12_0_2, asI_i, Zc, Zd, Zb, I4, I8, I16, Zh, Zj, Zv, Zar, ZQ, Za, Bool.cond_decide, if_neg (Int.lt_irrefl _)]
  replace hL : Zjw (0, .n (q + 1) :: .i (q + 1 : Nat) :: .i 0 :: .n (q + 1) :: I16 v1 v2 v3 v4 v5 v6 v7 v8 v9 v10 v11 v12 v13 v14 v15 v16 [.i v17, .i v18, .i v19, .t (ss.map Sg.toS)]) = some (2, .n (q + 1) :: .n (q + 1) :: I16 v1 v2 v3 v4 v5 v6 v7 v8 v9 v10 v11 v12 v13 v14 v15 v16 [.i v17, .i v18, .i v19, .t (ss.map Sg.toS), .l (plK (ss.map Sg.toS) (q + 1))]) := hL
  simp -implicitDefEqProofs only [g12, g12_0, asI_i, Zc, Zd, Zb, I4, I8, I16, Zh, Zj, Zv, Zar, ZQ, Za, Bool.cond_decide, hL, Z0]
theorem Zmj (v1 v2 v3 v4 v5 v6 v7 v8 v9 v10 v11 v12 v13 v14 v15 v16 v17 v18 v19 : Int) : g12 (1, I16 v1 v2 v3 v4 v5 v6 v7 v8 v9 v10 v11 v12 v13 v14 v15 v16 [.i v17, .i v18, .i v19]) = some (2, I16 v1 v2 v3 v4 v5 v6 v7 v8 v9 v10 v11 v12 v13 v14 v15 v16 [.i v17, .i v18, .i v19]) := by
  have hl : Zjw (1, I16 0 0 v1 v2 v3 v4 v5 v6 v7 v8 v9 v10 v11 v12 v13 v14 (I4 v15 v16 v17 v18 [.i v19])) = some (1, I16 v1 v2 v3 v4 v5 v6 v7 v8 v9 v10 v11 v12 v13 v14 v15 v16 [.i v17, .i v18, .i v19]) := by
    refine Zp (m := 3) (f := f12_0) (fun k => (1, I16 0 0 v1 v2 v3 v4 v5 v6 v7 v8 v9 v10 v11 v12 v13 v14 (I4 v15 v16 v17 v18 [.i v19]))) 0 (fun k hk => absurd hk (Nat.not_lt_zero _)) ?_ (by omega)
    simp -implicitDefEqProofs only [f12_0, f12_0_1, asI_i, Zc, Zd, Zb, I4, I8, I16, Zh, Zj, Zv, Zar, ZQ, Za, Bool.cond_decide, if_neg (Int.lt_irrefl _)]
  simp -implicitDefEqProofs only [g12, g12_1, asI_i, Zc, Zd, Zb, I4, I8, I16, Zh, Zj, Zv, Zar, ZQ, Za, Bool.cond_decide, hl, ZF]
theorem Zmk {n n0 m : Nat} (hn : n0 = min 20 n) {a a0 : List Int} (ha : a.length = n * 10) (ha0 : a0 = if 20 < n then a.take 200 else a) {Q : List NC} (hQ : Q.length = m) (he : Zh0 Q) : g4 (0, [.n n, .l a, .n m, .x Q]) = some (0, [.b true]) := by
  have hl0 : a0.length = n0 * 10 := by
    rw [ha0]
    split
    · rw [List.length_take]; omega
    · omega
  have hfew : L4_0 (0, [.n n, .l a, .n m, .x Q]) = some (0, [.n n0, .l a0, .n m, .x Q, .b (decide (20 < n))]) := by
    simp -implicitDefEqProofs only [L4_0, f4_0_0, asI_i, Zc, Zd, Zb, I4, I8, I16, Zh, Zj, Zv, Zar, ZQ, Za, Bool.cond_decide]
    by_cases h : 20 < n
    · rw [if_pos (show (20 : Int) < n by omega), if_pos (by omega), ha0, if_pos h, decide_eq_true h, show n0 = 20 by omega]
    · rw [if_neg (show ¬ (20 : Int) < n by omega), ha0, if_neg h, decide_eq_false h, show n0 = n by omega]
  have hm : n0 ≤ 20 := by omega
  clear hn ha ha0
  generalize decide (20 < n) = fl at hfew
  by_cases h16 : 16 < n0
  · have hw := Zmh h16 a0
    have ha := Zn5 hm hl0 m Q 6
    simp -implicitDefEqProofs only [g4, g4_0, asI_i, Zc, Zd, Zb, I4, I8, I16, Zh, Zj, Zv, Zar, ZQ, Za, Bool.cond_decide, hfew, Zk, hw, ha, if_pos (show (16 : Int) < n0 by omega), if_true, Zdf]
  · have hi : ¬ (16 : Int) < n0 := by omega
    cases hok : okK a0 n0 with
    | false =>
      obtain ⟨j, hj, h1, h2⟩ := ZmG hok
      have hw := Znf (by omega) hl0 hj h1 h2
      have ha := Zn5 hm hl0 m Q 1
      rw [hok] at ha
      simp -implicitDefEqProofs only [g4, g4_0, asI_i, Zc, Zd, Zb, I4, I8, I16, Zh, Zj, Zv, Zar, ZQ, Za, Bool.cond_decide, hfew, Zk, hw, ha, if_neg hi, Bool.not_false, cond_true, if_true, Zdf]
    | true =>
      have hyes := Zh1 hok
      have hw := ZnW (by omega) hl0 hyes
      have hc := Zmg (n := n0) (by omega) hl0
      by_cases h0 : n0 = 0
      · rw [if_pos h0] at hw hc
        have ha := Zon hm hl0 m Q 0 0 0 0 0 0 0 0 0 0 0 0 0 0 0 0 0 0 0 0
        rw [hok] at ha
        obtain ⟨r, hr, hre⟩ := Znh (m := m) hQ he
        subst hre
        have hp := Zmj 0 0 0 0 0 0 0 0 0 0 0 0 0 0 0 0 0 0 0
        unfold csn xK yK cK z9 at hr
        simp only [Int.natCast_zero] at hr
        simp -implicitDefEqProofs (maxSteps := 2000000) only [g4, g4_0, asI_i, Zc, Zd, Zb, I4, I8, I16, Zh, Zj, Zv, Zar, ZQ, Za, Bool.cond_decide, hfew, Zk, hw, ZF, ha, Z0, if_neg hi, Bool.not_true, cond_false, ne_eq, not_true_eq_false, if_false, hp, show (n0 : Int) = 0 by omega, if_neg (show ¬ (16 : Int) < 0 by omega), hc, hr, Zdf]
      · rw [if_neg h0] at hw hc
        have ha := Zoo hm hl0 m Q 0 n0 0 0 0 0 0 0 0 0 0 0 0 0 0 0 0 0 0 0 0 ((ZL a0 n0).map Sg.toS)
        rw [hok] at ha
        obtain ⟨r, hr, hre⟩ := Zng (ss := ZL a0 n0) (N := n0) (Zdl _ _) (by omega) (ZjA hyes) (m := m) hQ he
        subst hre
        have hp := Zcj h0 (by omega) (ZL a0 n0) (Zdl _ _) 0 0 0 0 0 0 0 0 0 0 0 0 0 0 0 0 0 0 0
        unfold cst xK yK cK tK z9 at hr
        simp only [Int.natCast_zero] at hr
        simp -implicitDefEqProofs (maxSteps := 2000000) only [g4, g4_0, asI_i, Zc, Zd, Zb, I4, I8, I16, Zh, Zj, Zv, Zar, ZQ, Za, Bool.cond_decide, hfew, Zk, hw, ZF, ha, Z0, Zbw, if_neg hi, Bool.not_true, cond_false, ne_eq, not_true_eq_false, if_false, hp, hc, hr, Zdf]
theorem Zni (a : List Int) (Q : List NC) (n m : Nat) (ha : a.length = n * 10) (hQ : Q.length = m * 1) (he : Zh0 Q) : ∃ d, evF tab d 4 [.ro (.ints .i64 a) n 10, .ro (.nest [.si .i64 2] Q) m 1] [] = some (.bool true, [], []) := by
  exact ⟨_, (R.ok4 0).ret (i := 0) (ls := [.n n, .l a, .n m, .x Q]) (j := 0) (r := [.b true]) (Zmk (n0 := min 20 n) (m := m) rfl ha rfl (by omega) he) rfl rfl rfl rfl⟩
end Go.Proofs.Ytlbfafbhflblcaa
