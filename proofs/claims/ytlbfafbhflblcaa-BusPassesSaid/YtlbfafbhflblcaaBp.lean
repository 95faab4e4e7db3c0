/-
  What any bus makes of any samples, in whatever parts they pass, and how loud that is: the law in plain Lean. Conditions: none.
-/
import Derived.Test.YtlbfafbhflblcaaNew
import Derived.Test.YtlbfafbhflblcaaDecR
namespace Go.Proofs.Ytlbfafbhflblcaa
open Go Go.Sx P
open Q R
set_option maxRecDepth 100000
set_option linter.unusedVariables false
attribute [local simp] asI_i Zc Zd Zb ZQ Zj Zh Ze3 Za Zat Zk ZF Z0 Zag ZH Zau Bool.cond_decide Bool.cond_not Int.toNat_natCast
set_option linter.unusedSimpArgs false
theorem Zgl (ss : List Sg) (l : List Int) (j : Nat) : ∀ n k, j < k * 2 → k ≤ n → (outK ss l n).getD j 0 = (outK ss l k).getD j 0
  | 0, k, hj, hk => by obtain rfl : k = 0 := by omega
                       rfl
  | n + 1, k, hj, hk => by
    by_cases h : k = n + 1
    · rw [h]
    · rw [outK, ← Zgl ss l j n k hj (by omega)]
      have := ZaI ss l n
      rw [List.getD_eq_getElem?_getD, List.getElem?_append_left (by omega), ← List.getD_eq_getElem?_getD]
theorem Zlt (ss : List Sg) (l : List Int) {n k : Nat} (h : k < n) : (outK ss l n).getD (k * 2) 0 = oL ss l k ∧ (outK ss l n).getD (k * 2 + 1) 0 = oR ss l k := by
  rw [Zgl ss l (k * 2) n (k + 1) (by omega) (by omega), Zgl ss l (k * 2 + 1) n (k + 1) (by omega) (by omega), outK]
  have hl := ZaI ss l k
  constructor
  · rw [List.getD_eq_getElem?_getD, List.getElem?_append_right (by omega), hl, Nat.sub_self]; rfl
  · rw [List.getD_eq_getElem?_getD, List.getElem?_append_right (by omega), hl, show k * 2 + 1 - k * 2 = 1 by omega]; rfl
theorem Zlu {B C : Nat} {ss : List Sg} (h : Fine B ss) (hc : B ≤ C) : Fine C ss := fun s hs => ⟨(h s hs).1, by have := (h s hs).2; omega⟩
theorem Zgm (l : List Int) : ∀ k, ssK [] l k = []
  | 0 => rfl
  | k + 1 => by rw [ssK, Zgm l k]; rfl
theorem ZnX (l : List Int) (k : Nat) : oL [] l k = satV (l.getD (k * 2) 0) := by unfold oL; rw [Zgm]; rfl
theorem ZnY (l : List Int) (k : Nat) : oR [] l k = satV (l.getD (k * 2 + 1) 0) := by unfold oR; rw [Zgm]; rfl
theorem Zol {ss : List Sg} {N B : Nat} (hN : ss.length = N) (hm : N ≤ 16) (hs : Fine B ss) {n : Nat} (hn : n ≤ 30) (hB : B + n ≤ 999) {l : List Int} (hl : l.length = n * 2) (m : Nat) (Q : List NC) (h1 : List ME) (c i v1 v2 v3 v4 v5 v6 v7 v8 v9 v10 v11 v12 v13 v14 v15 v16 v17 v18 v19 u0 u1 u2 u3 u4 u5 u6 u7 u8 u9 u10 u11 u12 u13 u14 u15 u16 u17 : Int) : L4_3 (3, .n m :: .x Q :: .n N :: .i c :: .i i :: .n n :: .l l :: .n n :: .i 0 :: .n N :: I16 v1 v2 v3 v4 v5 v6 v7 v8 v9 v10 v11 v12 v13 v14 v15 v16 (.i v17 :: .i v18 :: .i v19 :: .t h1 :: .t (ss.map Sg.toP) :: I16 u0 u1 u2 u3 u4 u5 u6 u7 u8 u9 u10 u11 u12 u13 u14 u15 [.i u16, .i u17, .l (outK ss l n)])) = some (4, .n m :: .x Q :: .n N :: .i c :: .i i :: .n n :: .l l :: .n n :: .n N :: I16 v1 v2 v3 v4 v5 v6 v7 v8 v9 v10 v11 v12 v13 v14 v15 v16 (.i v17 :: .i v18 :: .i v19 :: .t h1 :: .t ((ssK ss l n).map Sg.toP) :: I16 u0 u1 u2 u3 u4 u5 u6 u7 u8 u9 u10 u11 u12 u13 u14 u15 [.i u16, .i u17, .l (outK ss l n)])) := by
  refine Zp (m := 4) (f := f4_3) (fun k => (3, .n m :: .x Q :: .n N :: .i c :: .i i :: .n n :: .l l :: .n n :: .i k :: .n N :: I16 v1 v2 v3 v4 v5 v6 v7 v8 v9 v10 v11 v12 v13 v14 v15 v16 (.i v17 :: .i v18 :: .i v19 :: .t h1 :: .t ((ssK ss l k).map Sg.toP) :: I16 u0 u1 u2 u3 u4 u5 u6 u7 u8 u9 u10 u11 u12 u13 u14 u15 [.i u16, .i u17, .l (outK ss l n)]))) n (fun k hk => ⟨?_, by show 3 < 4; omega⟩) ?_ (by omega)
  · have w2 : IntKind.i64.wrap ((k : Int) + 1) = ((k + 1 : Nat) : Int) := Z6 (n := k + 1) (by omega)
    have i1 : (k : Int) < n := by omega
    have i2 : (0 : Int) ≤ k ∧ (k : Int) < n := by omega
    have hol := ZaI ss l n
    have ht := ZnN (ss := ssK ss l k) (N := N) (by rw [Zdz]; exact hN) hm (Zlu (Zdi hs l k) (by omega)) (l.getD (k * 2) 0) (l.getD (k * 2 + 1) 0)
    have e1 : (run (ssK ss l k) (satV (l.getD (k * 2) 0)) (satV (l.getD (k * 2 + 1) 0)) N).1 = oL ss l k := by subst hN; rfl
    have e2 : (run (ssK ss l k) (satV (l.getD (k * 2) 0)) (satV (l.getD (k * 2 + 1) 0)) N).2.1 = oR ss l k := by subst hN; rfl
    have e3 : (run (ssK ss l k) (satV (l.getD (k * 2) 0)) (satV (l.getD (k * 2 + 1) 0)) N).2.2 = ssK ss l (k + 1) := by subst hN; rfl
    rw [e1, e2, e3] at ht
    obtain ⟨o1, o2⟩ := Zlt ss l hk
    simp -implicitDefEqProofs only [f4_3, f4_3_3, asI_i, Zc, Zd, Zb, I4, I8, I16, Zh, Zj, Zv, Zar, ZQ, Za, Bool.cond_decide, if_pos i1, if_pos i2, Int.toNat_natCast, if_pos (show k * 2 + 2 ≤ (outK ss l n).length by omega), if_pos (show k * 2 + 2 ≤ l.length by omega), ht, Zk, o1, o2, decide_true, Bool.not_true, cond_false, w2]
  · simp -implicitDefEqProofs only [f4_3, f4_3_3, asI_i, Zc, Zd, Zb, I4, I8, I16, Zh, Zj, Zv, Zar, ZQ, Za, Bool.cond_decide, if_neg (Int.lt_irrefl _)]
theorem Zom {n : Nat} (hn : n ≤ 30) {l : List Int} (hl : l.length = n * 2) (m : Nat) (Q : List NC) (c i v1 v2 v3 v4 v5 v6 v7 v8 v9 v10 v11 v12 v13 v14 v15 v16 v17 v18 v19 u0 u1 u2 u3 u4 u5 u6 u7 u8 u9 u10 u11 u12 u13 u14 u15 u16 u17 : Int) : L4_3 (1, .n m :: .x Q :: .i c :: .i i :: .n n :: .l l :: .n n :: I16 0 v1 v2 v3 v4 v5 v6 v7 v8 v9 v10 v11 v12 v13 v14 v15 (I16 v16 v17 v18 v19 u0 u1 u2 u3 u4 u5 u6 u7 u8 u9 u10 u11 (I4 u12 u13 u14 u15 [.i u16, .i u17, .l (outK [] l n)]))) = some (1, .n m :: .x Q :: .i c :: .i i :: .n n :: .l l :: .n n :: I16 v1 v2 v3 v4 v5 v6 v7 v8 v9 v10 v11 v12 v13 v14 v15 v16 (I16 v17 v18 v19 u0 u1 u2 u3 u4 u5 u6 u7 u8 u9 u10 u11 u12 (I4 u13 u14 u15 u16 [.i u17, .l (outK [] l n)]))) := by
  refine Zp (m := 4) (f := f4_3) (fun k => (1, .n m :: .x Q :: .i c :: .i i :: .n n :: .l l :: .n n :: I16 k v1 v2 v3 v4 v5 v6 v7 v8 v9 v10 v11 v12 v13 v14 v15 (I16 v16 v17 v18 v19 u0 u1 u2 u3 u4 u5 u6 u7 u8 u9 u10 u11 (I4 u12 u13 u14 u15 [.i u16, .i u17, .l (outK [] l n)])))) n (fun k hk => ⟨?_, by show 1 < 4; omega⟩) ?_ (by omega)
  · have w2 : IntKind.i64.wrap ((k : Int) + 1) = ((k + 1 : Nat) : Int) := Z6 (n := k + 1) (by omega)
    have i1 : (k : Int) < n := by omega
    have i2 : (0 : Int) ≤ k ∧ (k : Int) < n := by omega
    have hol := ZaI [] l n
    have ht := ZnO (l.getD (k * 2) 0) (l.getD (k * 2 + 1) 0)
    obtain ⟨o1, o2⟩ := Zlt [] l hk
    rw [ZnX] at o1
    rw [ZnY] at o2
    simp -implicitDefEqProofs only [f4_3, f4_3_1, asI_i, Zc, Zd, Zb, I4, I8, I16, Zh, Zj, Zv, Zar, ZQ, Za, Bool.cond_decide, if_pos i1, if_pos i2, Int.toNat_natCast, if_pos (show k * 2 + 2 ≤ (outK [] l n).length by omega), if_pos (show k * 2 + 2 ≤ l.length by omega), ht, ZF, o1, o2, decide_true, Bool.not_true, cond_false, w2]
  · simp -implicitDefEqProofs only [f4_3, f4_3_1, asI_i, Zc, Zd, Zb, I4, I8, I16, Zh, Zj, Zv, Zar, ZQ, Za, Bool.cond_decide, if_neg (Int.lt_irrefl _)]
theorem ZnZ (m : Nat) (Q : List NC) (l : List Int) (c i v1 v2 v3 v4 v5 v6 v7 v8 v9 v10 v11 v12 v13 v14 v15 v16 v17 v18 v19 u0 u1 u2 u3 u4 u5 u6 u7 u8 u9 u10 u11 u12 u13 u14 u15 u16 u17 : Int) : L4_3 (0, .n m :: .x Q :: .i c :: .i i :: .n 0 :: .l l :: I16 0 v1 v2 v3 v4 v5 v6 v7 v8 v9 v10 v11 v12 v13 v14 v15 (I16 v16 v17 v18 v19 u0 u1 u2 u3 u4 u5 u6 u7 u8 u9 u10 u11 (I4 u12 u13 u14 u15 [.i u16, .i u17]))) = some (0, .n m :: .x Q :: .i c :: .i i :: .n 0 :: .l l :: I16 v1 v2 v3 v4 v5 v6 v7 v8 v9 v10 v11 v12 v13 v14 v15 v16 (I16 v17 v18 v19 u0 u1 u2 u3 u4 u5 u6 u7 u8 u9 u10 u11 u12 (I4 u13 u14 u15 u16 [.i u17]))) := by
  refine Zp (m := 4) (f := f4_3) (fun k => (0, .n m :: .x Q :: .i c :: .i i :: .n 0 :: .l l :: I16 0 v1 v2 v3 v4 v5 v6 v7 v8 v9 v10 v11 v12 v13 v14 v15 (I16 v16 v17 v18 v19 u0 u1 u2 u3 u4 u5 u6 u7 u8 u9 u10 u11 (I4 u12 u13 u14 u15 [.i u16, .i u17])))) 0 (fun k hk => absurd hk (Nat.not_lt_zero _)) ?_ (by omega)
  simp -implicitDefEqProofs only [f4_3, f4_3_0, asI_i, Zc, Zd, Zb, I4, I8, I16, Zh, Zj, Zv, Zar, ZQ, Za, Bool.cond_decide, Int.natCast_zero, if_neg (Int.lt_irrefl _)]
theorem Zn0 (m N : Nat) (Q : List NC) (l : List Int) (h1 h2 : List ME) (c i v1 v2 v3 v4 v5 v6 v7 v8 v9 v10 v11 v12 v13 v14 v15 v16 v17 v18 v19 u0 u1 u2 u3 u4 u5 u6 u7 u8 u9 u10 u11 u12 u13 u14 u15 u16 u17 : Int) : L4_3 (2, .n m :: .x Q :: .n N :: .i c :: .i i :: .n 0 :: .l l :: .i 0 :: .n N :: I16 v1 v2 v3 v4 v5 v6 v7 v8 v9 v10 v11 v12 v13 v14 v15 v16 (.i v17 :: .i v18 :: .i v19 :: .t h1 :: .t h2 :: I16 u0 u1 u2 u3 u4 u5 u6 u7 u8 u9 u10 u11 u12 u13 u14 u15 [.i u16, .i u17])) = some (3, .n m :: .x Q :: .n N :: .i c :: .i i :: .n 0 :: .l l :: .n N :: I16 v1 v2 v3 v4 v5 v6 v7 v8 v9 v10 v11 v12 v13 v14 v15 v16 (.i v17 :: .i v18 :: .i v19 :: .t h1 :: .t h2 :: I16 u0 u1 u2 u3 u4 u5 u6 u7 u8 u9 u10 u11 u12 u13 u14 u15 [.i u16, .i u17])) := by
  refine Zp (m := 4) (f := f4_3) (fun k => (2, .n m :: .x Q :: .n N :: .i c :: .i i :: .n 0 :: .l l :: .i 0 :: .n N :: I16 v1 v2 v3 v4 v5 v6 v7 v8 v9 v10 v11 v12 v13 v14 v15 v16 (.i v17 :: .i v18 :: .i v19 :: .t h1 :: .t h2 :: I16 u0 u1 u2 u3 u4 u5 u6 u7 u8 u9 u10 u11 u12 u13 u14 u15 [.i u16, .i u17]))) 0 (fun k hk => absurd hk (Nat.not_lt_zero _)) ?_ (by omega)
  simp -implicitDefEqProofs only [f4_3, f4_3_2, asI_i, Zc, Zd, Zb, I4, I8, I16, Zh, Zj, Zv, Zar, ZQ, Za, Bool.cond_decide, Int.natCast_zero, if_neg (Int.lt_irrefl _)]
def rowL (Q : List NC) (i : Nat) : List Int := (Q.getD i ⟨0, []⟩).l
def nAt (Q : List NC) (i : Nat) : Nat := if 30 < (rowL Q i).length / 2 then 30 else (rowL Q i).length / 2
def lAt (Q : List NC) (i : Nat) : List Int := if 30 < (rowL Q i).length / 2 then (rowL Q i).take 60 else rowL Q i
def big (Q : List NC) (i : Nat) : Bool := decide (30 < (rowL Q i).length / 2)
def Zh0 (Q : List NC) : Prop := ∀ i, i < Q.length → (rowL Q i).length = (rowL Q i).length / 2 * 2
theorem Zlv (Q : List NC) (i : Nat) : nAt Q i ≤ 30 := by unfold nAt; split <;> omega
theorem Zlw {Q : List NC} {i : Nat} (hi : i < Q.length) (he : Zh0 Q) : (lAt Q i).length = nAt Q i * 2 := by
  have := he i hi
  unfold lAt nAt
  split
  · rw [List.length_take]; omega
  · exact this
def tK (Q : List NC) (ss : List Sg) : Nat → List Sg
  | 0 => ss
  | i + 1 => ssK (tK Q ss i) (lAt Q i) (nAt Q i)
def lvL (Q : List NC) (ss : List Sg) (i : Nat) : L9 := if nAt Q i = 0 then z9 else ofV (ZW (outK (tK Q ss i) (lAt Q i) (nAt Q i)) (nAt Q i))
def lvR (Q : List NC) (ss : List Sg) (i : Nat) : L9 := if nAt Q i = 0 then z9 else ofV (ZG (outK (tK Q ss i) (lAt Q i) (nAt Q i)) (nAt Q i))
def xK (Q : List NC) (ss : List Sg) : Nat → L9
  | 0 => z9
  | i + 1 => Zi (xK Q ss i) (lvL Q ss i)
def yK (Q : List NC) (ss : List Sg) : Nat → L9
  | 0 => z9
  | i + 1 => Zi (yK Q ss i) (lvR Q ss i)
def cK (Q : List NC) : Nat → Int
  | 0 => 0
  | i + 1 => IntKind.i64.wrap (cK Q i + (nAt Q i : Nat))
theorem ZmE (Q : List NC) (ss : List Sg) : ∀ i, (tK Q ss i).length = ss.length
  | 0 => rfl
  | i + 1 => by rw [tK, Zdz]; exact ZmE Q ss i
theorem Zlx {B : Nat} {ss : List Sg} (h : Fine B ss) (Q : List NC) : ∀ i, Fine (B + 30 * i) (tK Q ss i)
  | 0 => h
  | i + 1 => Zlu (Zdi (Zlx h Q i) _ _) (by have := Zlv Q i; omega)
theorem ZmF (Q : List NC) : ∀ i, tK Q [] i = []
  | 0 => rfl
  | i + 1 => by rw [tK, ZmF Q i]; exact Zgm _ _
theorem Zn1 (m N : Nat) (Q : List NC) (j : Nat) (h1 h2 : List ME) (c i v1 v2 v3 v4 v5 v6 v7 v8 v9 v10 v11 v12 v13 v14 v15 v16 v17 v18 v19 u0 u1 u2 u3 u4 u5 u6 u7 u8 u9 u10 u11 u12 u13 u14 u15 u16 u17 : Int) : L4_2 (1, .n m :: .x Q :: .n N :: .i c :: .i i :: .n ((rowL Q j).length / 2) :: .l (rowL Q j) :: .n N :: I16 v1 v2 v3 v4 v5 v6 v7 v8 v9 v10 v11 v12 v13 v14 v15 v16 (.i v17 :: .i v18 :: .i v19 :: .t h1 :: .t h2 :: I16 u0 u1 u2 u3 u4 u5 u6 u7 u8 u9 u10 u11 u12 u13 u14 u15 [.i u16, .i u17])) = some (1, .n m :: .x Q :: .n N :: .i c :: .i i :: .n (nAt Q j) :: .l (lAt Q j) :: .b (big Q j) :: .n N :: I16 v1 v2 v3 v4 v5 v6 v7 v8 v9 v10 v11 v12 v13 v14 v15 v16 (.i v17 :: .i v18 :: .i v19 :: .t h1 :: .t h2 :: I16 u0 u1 u2 u3 u4 u5 u6 u7 u8 u9 u10 u11 u12 u13 u14 u15 [.i u16, .i u17])) := by
  simp -implicitDefEqProofs only [L4_2, f4_2_1, asI_i, Zc, Zd, Zb, I4, I8, I16, Zh, Zj, Zv, Zar, ZQ, Za, Bool.cond_decide]
  unfold nAt lAt big
  by_cases h : 30 < (rowL Q j).length / 2
  · rw [if_pos (show (30 : Int) < ((rowL Q j).length / 2 : Nat) by omega), if_pos (by omega), if_pos h, if_pos h, decide_eq_true h]
  · rw [if_neg (show ¬ (30 : Int) < ((rowL Q j).length / 2 : Nat) by omega), if_neg h, if_neg h, decide_eq_false h]
def cst (ss : List Sg) (N : Nat) (m : Nat) (Q : List NC) (i : Nat) : Nat × List Leaf := (1, .n m :: .x Q :: .n N :: .i (cK Q (i)) :: .i (i : Nat) :: .n N :: I16 (xK Q ss (i)).a0 (xK Q ss (i)).a1 (xK Q ss (i)).a2 (xK Q ss (i)).a3 (xK Q ss (i)).a4 (xK Q ss (i)).a5 (xK Q ss (i)).a6 (xK Q ss (i)).a7 (xK Q ss (i)).a8 (yK Q ss (i)).a0 (yK Q ss (i)).a1 (yK Q ss (i)).a2 (yK Q ss (i)).a3 (yK Q ss (i)).a4 (yK Q ss (i)).a5 (yK Q ss (i)).a6 (.i (yK Q ss (i)).a7 :: .i (yK Q ss (i)).a8 :: .i (cK Q (i)) :: .t ((tK Q ss (i)).map Sg.toS) :: .t ((tK Q ss (i)).map Sg.toP) :: I16 (xK Q ss (i)).a0 (xK Q ss (i)).a1 (xK Q ss (i)).a2 (xK Q ss (i)).a3 (xK Q ss (i)).a4 (xK Q ss (i)).a5 (xK Q ss (i)).a6 (xK Q ss (i)).a7 (xK Q ss (i)).a8 (yK Q ss (i)).a0 (yK Q ss (i)).a1 (yK Q ss (i)).a2 (yK Q ss (i)).a3 (yK Q ss (i)).a4 (yK Q ss (i)).a5 (yK Q ss (i)).a6 [.i (yK Q ss (i)).a7, .i (yK Q ss (i)).a8]))
theorem Zn2 {ss : List Sg} {N : Nat} (hN : ss.length = N) (hm : N ≤ 16) (hs : Fine 0 ss) {m : Nat} {Q : List NC} (hQ : Q.length = m) (he : Zh0 Q) {i : Nat} (hi : i < m) (hi2 : i < 10) : f4_4 (cst ss N m Q i) = some (cst ss N m Q (i + 1)) := by
  have w2 : IntKind.i64.wrap ((i : Int) + 1) = ((i + 1 : Nat) : Int) := Z6 (n := i + 1) (by omega)
  have i1 : (i : Int) < m := by omega
  have i2 : (0 : Int) ≤ i ∧ (i : Int) < m := by omega
  have i3 : (i : Int) < 10 := by omega
  have hg : Q[i]? = some (Q.getD i ⟨0, []⟩) := Zbr (by omega)
  have hr : (Q.getD i ⟨0, []⟩).l = rowL Q i := rfl
  have hll := Zlw (Q := Q) (i := i) (by omega) he
  have hnl := Zlv Q i
  have hT : (tK Q ss i).length = N := by rw [ZmE]; exact hN
  have hF := Zlx hs Q i
  have eT : tK Q ss (i + 1) = ssK (tK Q ss i) (lAt Q i) (nAt Q i) := rfl
  have eX : xK Q ss (i + 1) = Zi (xK Q ss i) (lvL Q ss i) := rfl
  have eY : yK Q ss (i + 1) = Zi (yK Q ss i) (lvR Q ss i) := rfl
  have eC : cK Q (i + 1) = IntKind.i64.wrap (cK Q i + (nAt Q i : Nat)) := rfl
  by_cases h0 : nAt Q i = 0
  · have hfew := Zn1 m N Q i ((tK Q ss i).map Sg.toS) ((tK Q ss i).map Sg.toP) (cK Q i) (i : Nat) (xK Q ss i).a0 (xK Q ss i).a1 (xK Q ss i).a2 (xK Q ss i).a3 (xK Q ss i).a4 (xK Q ss i).a5 (xK Q ss i).a6 (xK Q ss i).a7 (xK Q ss i).a8 (yK Q ss i).a0 (yK Q ss i).a1 (yK Q ss i).a2 (yK Q ss i).a3 (yK Q ss i).a4 (yK Q ss i).a5 (yK Q ss i).a6 (yK Q ss i).a7 (yK Q ss i).a8 (cK Q i) (xK Q ss i).a0 (xK Q ss i).a1 (xK Q ss i).a2 (xK Q ss i).a3 (xK Q ss i).a4 (xK Q ss i).a5 (xK Q ss i).a6 (xK Q ss i).a7 (xK Q ss i).a8 (yK Q ss i).a0 (yK Q ss i).a1 (yK Q ss i).a2 (yK Q ss i).a3 (yK Q ss i).a4 (yK Q ss i).a5 (yK Q ss i).a6 (yK Q ss i).a7 (yK Q ss i).a8
    rw [h0] at hfew hll hnl eC
    have eL : lvL Q ss i = z9 := if_pos h0
    have eR : lvR Q ss i = z9 := if_pos h0
    rw [eL] at eX
    rw [eR] at eY
    have eT0 : tK Q ss (i + 1) = tK Q ss i := by rw [eT, h0]; rfl
    have hp := Zmd hT hm hF hll (xK Q ss i) (yK Q ss i) (cK Q i)
    have ec : ssK (tK Q ss i) (lAt Q i) 0 = tK Q ss i := rfl
    rw [ec] at hp
    have hc := Zn0 m N Q (lAt Q i) ((tK Q ss i).map Sg.toS) ((tK Q ss i).map Sg.toP) (cK Q i) (i : Nat) (Zi (xK Q ss i) z9).a0 (Zi (xK Q ss i) z9).a1 (Zi (xK Q ss i) z9).a2 (Zi (xK Q ss i) z9).a3 (Zi (xK Q ss i) z9).a4 (Zi (xK Q ss i) z9).a5 (Zi (xK Q ss i) z9).a6 (Zi (xK Q ss i) z9).a7 (Zi (xK Q ss i) z9).a8 (Zi (yK Q ss i) z9).a0 (Zi (yK Q ss i) z9).a1 (Zi (yK Q ss i) z9).a2 (Zi (yK Q ss i) z9).a3 (Zi (yK Q ss i) z9).a4 (Zi (yK Q ss i) z9).a5 (Zi (yK Q ss i) z9).a6 (Zi (yK Q ss i) z9).a7 (Zi (yK Q ss i) z9).a8 (IntKind.i64.wrap (cK Q i + (0 : Nat))) (xK Q ss i).a0 (xK Q ss i).a1 (xK Q ss i).a2 (xK Q ss i).a3 (xK Q ss i).a4 (xK Q ss i).a5 (xK Q ss i).a6 (xK Q ss i).a7 (xK Q ss i).a8 (yK Q ss i).a0 (yK Q ss i).a1 (yK Q ss i).a2 (yK Q ss i).a3 (yK Q ss i).a4 (yK Q ss i).a5 (yK Q ss i).a6 (yK Q ss i).a7 (yK Q ss i).a8
    simp only [Int.natCast_zero] at hp hc eC
    simp -implicitDefEqProofs (maxSteps := 2000000) only [cst, f4_4, f4_4_1, asI_i, Zc, Zd, Zb, I4, I8, I16, Zh, Zj, Zv, Zar, ZQ, Za, Bool.cond_decide, if_pos i1, if_pos i2, if_pos i3, Int.toNat_natCast, hg, ZH, hr, hfew, hp, hc, Zeb, ZiW, Zcb, g19, g19_0, g20, g20_0, Zk, ZF, Z0, Zag, Zbw, ne_eq, not_true_eq_false, if_false, decide_true, Bool.not_true, cond_false, Int.natCast_zero, eX, eY, eC, eT0, w2]
    try rfl
  · have hfew := Zn1 m N Q i ((tK Q ss i).map Sg.toS) ((tK Q ss i).map Sg.toP) (cK Q i) (i : Nat) (xK Q ss i).a0 (xK Q ss i).a1 (xK Q ss i).a2 (xK Q ss i).a3 (xK Q ss i).a4 (xK Q ss i).a5 (xK Q ss i).a6 (xK Q ss i).a7 (xK Q ss i).a8 (yK Q ss i).a0 (yK Q ss i).a1 (yK Q ss i).a2 (yK Q ss i).a3 (yK Q ss i).a4 (yK Q ss i).a5 (yK Q ss i).a6 (yK Q ss i).a7 (yK Q ss i).a8 (cK Q i) (xK Q ss i).a0 (xK Q ss i).a1 (xK Q ss i).a2 (xK Q ss i).a3 (xK Q ss i).a4 (xK Q ss i).a5 (xK Q ss i).a6 (xK Q ss i).a7 (xK Q ss i).a8 (yK Q ss i).a0 (yK Q ss i).a1 (yK Q ss i).a2 (yK Q ss i).a3 (yK Q ss i).a4 (yK Q ss i).a5 (yK Q ss i).a6 (yK Q ss i).a7 (yK Q ss i).a8
    have eL : lvL Q ss i = ofV (ZW (outK (tK Q ss i) (lAt Q i) (nAt Q i)) (nAt Q i)) := if_neg h0
    have eR : lvR Q ss i = ofV (ZG (outK (tK Q ss i) (lAt Q i) (nAt Q i)) (nAt Q i)) := if_neg h0
    rw [eL] at eX
    rw [eR] at eY
    have hp := Zmc hT hm hF h0 (by omega) hll (xK Q ss i) (yK Q ss i) (cK Q i)
    have hc := Zol hT hm hF (n := nAt Q i) hnl (by omega) hll m Q ((ssK (tK Q ss i) (lAt Q i) (nAt Q i)).map Sg.toS) (cK Q i) (i : Nat) (Zi (xK Q ss i) (ofV (ZW (outK (tK Q ss i) (lAt Q i) (nAt Q i)) (nAt Q i)))).a0 (Zi (xK Q ss i) (ofV (ZW (outK (tK Q ss i) (lAt Q i) (nAt Q i)) (nAt Q i)))).a1 (Zi (xK Q ss i) (ofV (ZW (outK (tK Q ss i) (lAt Q i) (nAt Q i)) (nAt Q i)))).a2 (Zi (xK Q ss i) (ofV (ZW (outK (tK Q ss i) (lAt Q i) (nAt Q i)) (nAt Q i)))).a3 (Zi (xK Q ss i) (ofV (ZW (outK (tK Q ss i) (lAt Q i) (nAt Q i)) (nAt Q i)))).a4 (Zi (xK Q ss i) (ofV (ZW (outK (tK Q ss i) (lAt Q i) (nAt Q i)) (nAt Q i)))).a5 (Zi (xK Q ss i) (ofV (ZW (outK (tK Q ss i) (lAt Q i) (nAt Q i)) (nAt Q i)))).a6 (Zi (xK Q ss i) (ofV (ZW (outK (tK Q ss i) (lAt Q i) (nAt Q i)) (nAt Q i)))).a7 (Zi (xK Q ss i) (ofV (ZW (outK (tK Q ss i) (lAt Q i) (nAt Q i)) (nAt Q i)))).a8 (Zi (yK Q ss i) (ofV (ZG (outK (tK Q ss i) (lAt Q i) (nAt Q i)) (nAt Q i)))).a0 (Zi (yK Q ss i) (ofV (ZG (outK (tK Q ss i) (lAt Q i) (nAt Q i)) (nAt Q i)))).a1 (Zi (yK Q ss i) (ofV (ZG (outK (tK Q ss i) (lAt Q i) (nAt Q i)) (nAt Q i)))).a2 (Zi (yK Q ss i) (ofV (ZG (outK (tK Q ss i) (lAt Q i) (nAt Q i)) (nAt Q i)))).a3 (Zi (yK Q ss i) (ofV (ZG (outK (tK Q ss i) (lAt Q i) (nAt Q i)) (nAt Q i)))).a4 (Zi (yK Q ss i) (ofV (ZG (outK (tK Q ss i) (lAt Q i) (nAt Q i)) (nAt Q i)))).a5 (Zi (yK Q ss i) (ofV (ZG (outK (tK Q ss i) (lAt Q i) (nAt Q i)) (nAt Q i)))).a6 (Zi (yK Q ss i) (ofV (ZG (outK (tK Q ss i) (lAt Q i) (nAt Q i)) (nAt Q i)))).a7 (Zi (yK Q ss i) (ofV (ZG (outK (tK Q ss i) (lAt Q i) (nAt Q i)) (nAt Q i)))).a8 (IntKind.i64.wrap (cK Q i + (nAt Q i : Nat))) (xK Q ss i).a0 (xK Q ss i).a1 (xK Q ss i).a2 (xK Q ss i).a3 (xK Q ss i).a4 (xK Q ss i).a5 (xK Q ss i).a6 (xK Q ss i).a7 (xK Q ss i).a8 (yK Q ss i).a0 (yK Q ss i).a1 (yK Q ss i).a2 (yK Q ss i).a3 (yK Q ss i).a4 (yK Q ss i).a5 (yK Q ss i).a6 (yK Q ss i).a7 (yK Q ss i).a8
    have ho := Zdj (tK Q ss i) (lAt Q i) (nAt Q i)
    have h1 := Zea (outK (tK Q ss i) (lAt Q i) (nAt Q i)) (nAt Q i) h0 (by omega) (ZaI _ _ _)
    have h2 := ZdT (ZW (outK (tK Q ss i) (lAt Q i) (nAt Q i)) (nAt Q i)) (nAt Q i) (Zcc _ _) (by omega) (Zd9 ho (nAt Q i))
    have h3 := ZdT (ZG (outK (tK Q ss i) (lAt Q i) (nAt Q i)) (nAt Q i)) (nAt Q i) (Zby _ _) (by omega) (Zdk ho (nAt Q i))
    simp -implicitDefEqProofs (maxSteps := 2000000) only [cst, f4_4, f4_4_1, asI_i, Zc, Zd, Zb, I4, I8, I16, Zh, Zj, Zv, Zar, ZQ, Za, Bool.cond_decide, if_pos i1, if_pos i2, if_pos i3, Int.toNat_natCast, hg, ZH, hr, hfew, hp, hc, h1, h2, h3, Zcb, g19, g19_0, g20, g20_0, Zk, ZF, Z0, Zag, Zbw, ne_eq, not_true_eq_false, if_false, decide_true, Bool.not_true, cond_false, eX, eY, eC, eT, w2]
    try rfl
theorem Zng {ss : List Sg} {N : Nat} (hN : ss.length = N) (hm : N ≤ 16) (hs : Fine 0 ss) {m : Nat} {Q : List NC} (hQ : Q.length = m) (he : Zh0 Q) : ∃ r, L4_4 (cst ss N m Q 0) = some (1, r) ∧ r = (.n N :: I16 (xK Q ss (min m 10)).a0 (xK Q ss (min m 10)).a1 (xK Q ss (min m 10)).a2 (xK Q ss (min m 10)).a3 (xK Q ss (min m 10)).a4 (xK Q ss (min m 10)).a5 (xK Q ss (min m 10)).a6 (xK Q ss (min m 10)).a7 (xK Q ss (min m 10)).a8 (yK Q ss (min m 10)).a0 (yK Q ss (min m 10)).a1 (yK Q ss (min m 10)).a2 (yK Q ss (min m 10)).a3 (yK Q ss (min m 10)).a4 (yK Q ss (min m 10)).a5 (yK Q ss (min m 10)).a6 (.i (yK Q ss (min m 10)).a7 :: .i (yK Q ss (min m 10)).a8 :: .i (cK Q (min m 10)) :: .t ((tK Q ss (min m 10)).map Sg.toS) :: .t ((tK Q ss (min m 10)).map Sg.toP) :: I16 (xK Q ss (min m 10)).a0 (xK Q ss (min m 10)).a1 (xK Q ss (min m 10)).a2 (xK Q ss (min m 10)).a3 (xK Q ss (min m 10)).a4 (xK Q ss (min m 10)).a5 (xK Q ss (min m 10)).a6 (xK Q ss (min m 10)).a7 (xK Q ss (min m 10)).a8 (yK Q ss (min m 10)).a0 (yK Q ss (min m 10)).a1 (yK Q ss (min m 10)).a2 (yK Q ss (min m 10)).a3 (yK Q ss (min m 10)).a4 (yK Q ss (min m 10)).a5 (yK Q ss (min m 10)).a6 [.i (yK Q ss (min m 10)).a7, .i (yK Q ss (min m 10)).a8])) := by
  refine ⟨_, Zp (m := 2) (f := f4_4) (cst ss N m Q) (min m 10) (j := 1) (fun k hk => ⟨Zn2 hN hm hs hQ he (by omega) (by omega), by show 1 < 2; omega⟩) ?_ (by omega), rfl⟩
  by_cases h : m ≤ 10
  · have e : min m 10 = m := by omega
    rw [e]
    simp -implicitDefEqProofs only [cst, f4_4, f4_4_1, asI_i, Zc, Zd, Zb, I4, I8, I16, Zh, Zj, Zv, Zar, ZQ, Za, Bool.cond_decide, if_neg (Int.lt_irrefl _)]
  · have e : min m 10 = 10 := by omega
    rw [e]
    simp -implicitDefEqProofs only [cst, f4_4, f4_4_1, asI_i, Zc, Zd, Zb, I4, I8, I16, Zh, Zj, Zv, Zar, ZQ, Za, Bool.cond_decide, if_pos (show ((10 : Nat) : Int) < m by omega), if_neg (show ¬ ((10 : Nat) : Int) < 10 by omega)]
theorem Zn3 (m : Nat) (Q : List NC) (j : Nat) (c i v1 v2 v3 v4 v5 v6 v7 v8 v9 v10 v11 v12 v13 v14 v15 v16 v17 v18 v19 u0 u1 u2 u3 u4 u5 u6 u7 u8 u9 u10 u11 u12 u13 u14 u15 u16 u17 : Int) : L4_2 (0, .n m :: .x Q :: .i c :: .i i :: .n ((rowL Q j).length / 2) :: .l (rowL Q j) :: I16 v1 v2 v3 v4 v5 v6 v7 v8 v9 v10 v11 v12 v13 v14 v15 v16 (I16 v17 v18 v19 u0 u1 u2 u3 u4 u5 u6 u7 u8 u9 u10 u11 u12 (I4 u13 u14 u15 u16 [.i u17]))) = some (0, .n m :: .x Q :: .i c :: .i i :: .n (nAt Q j) :: .l (lAt Q j) :: .b (big Q j) :: I16 v1 v2 v3 v4 v5 v6 v7 v8 v9 v10 v11 v12 v13 v14 v15 v16 (I16 v17 v18 v19 u0 u1 u2 u3 u4 u5 u6 u7 u8 u9 u10 u11 u12 (I4 u13 u14 u15 u16 [.i u17]))) := by
  simp -implicitDefEqProofs only [L4_2, f4_2_0, asI_i, Zc, Zd, Zb, I4, I8, I16, Zh, Zj, Zv, Zar, ZQ, Za, Bool.cond_decide]
  unfold nAt lAt big
  by_cases h : 30 < (rowL Q j).length / 2
  · rw [if_pos (show (30 : Int) < ((rowL Q j).length / 2 : Nat) by omega), if_pos (by omega), if_pos h, if_pos h, decide_eq_true h]
  · rw [if_neg (show ¬ (30 : Int) < ((rowL Q j).length / 2 : Nat) by omega), if_neg h, if_neg h, decide_eq_false h]
def csn (m : Nat) (Q : List NC) (i : Nat) : Nat × List Leaf := (0, .n m :: .x Q :: I16 (cK Q (i)) (i : Nat) (xK Q [] (i)).a0 (xK Q [] (i)).a1 (xK Q [] (i)).a2 (xK Q [] (i)).a3 (xK Q [] (i)).a4 (xK Q [] (i)).a5 (xK Q [] (i)).a6 (xK Q [] (i)).a7 (xK Q [] (i)).a8 (yK Q [] (i)).a0 (yK Q [] (i)).a1 (yK Q [] (i)).a2 (yK Q [] (i)).a3 (yK Q [] (i)).a4 (I16 (yK Q [] (i)).a5 (yK Q [] (i)).a6 (yK Q [] (i)).a7 (yK Q [] (i)).a8 (cK Q (i)) (xK Q [] (i)).a0 (xK Q [] (i)).a1 (xK Q [] (i)).a2 (xK Q [] (i)).a3 (xK Q [] (i)).a4 (xK Q [] (i)).a5 (xK Q [] (i)).a6 (xK Q [] (i)).a7 (xK Q [] (i)).a8 (yK Q [] (i)).a0 (yK Q [] (i)).a1 (I4 (yK Q [] (i)).a2 (yK Q [] (i)).a3 (yK Q [] (i)).a4 (yK Q [] (i)).a5 [.i (yK Q [] (i)).a6, .i (yK Q [] (i)).a7, .i (yK Q [] (i)).a8])))
theorem Zn4 {m : Nat} {Q : List NC} (hQ : Q.length = m) (he : Zh0 Q) {i : Nat} (hi : i < m) (hi2 : i < 10) : f4_4 (csn m Q i) = some (csn m Q (i + 1)) := by
  have w2 : IntKind.i64.wrap ((i : Int) + 1) = ((i + 1 : Nat) : Int) := Z6 (n := i + 1) (by omega)
  have i1 : (i : Int) < m := by omega
  have i2 : (0 : Int) ≤ i ∧ (i : Int) < m := by omega
  have i3 : (i : Int) < 10 := by omega
  have hg : Q[i]? = some (Q.getD i ⟨0, []⟩) := Zbr (by omega)
  have hr : (Q.getD i ⟨0, []⟩).l = rowL Q i := rfl
  have hll := Zlw (Q := Q) (i := i) (by omega) he
  have hnl := Zlv Q i
  have hT : tK Q [] i = [] := ZmF Q i
  have eX : xK Q [] (i + 1) = Zi (xK Q [] i) (lvL Q [] i) := rfl
  have eY : yK Q [] (i + 1) = Zi (yK Q [] i) (lvR Q [] i) := rfl
  have eC : cK Q (i + 1) = IntKind.i64.wrap (cK Q i + (nAt Q i : Nat)) := rfl
  by_cases h0 : nAt Q i = 0
  · have hfew := Zn3 m Q i (cK Q i) (i : Nat) (xK Q [] i).a0 (xK Q [] i).a1 (xK Q [] i).a2 (xK Q [] i).a3 (xK Q [] i).a4 (xK Q [] i).a5 (xK Q [] i).a6 (xK Q [] i).a7 (xK Q [] i).a8 (yK Q [] i).a0 (yK Q [] i).a1 (yK Q [] i).a2 (yK Q [] i).a3 (yK Q [] i).a4 (yK Q [] i).a5 (yK Q [] i).a6 (yK Q [] i).a7 (yK Q [] i).a8 (cK Q i) (xK Q [] i).a0 (xK Q [] i).a1 (xK Q [] i).a2 (xK Q [] i).a3 (xK Q [] i).a4 (xK Q [] i).a5 (xK Q [] i).a6 (xK Q [] i).a7 (xK Q [] i).a8 (yK Q [] i).a0 (yK Q [] i).a1 (yK Q [] i).a2 (yK Q [] i).a3 (yK Q [] i).a4 (yK Q [] i).a5 (yK Q [] i).a6 (yK Q [] i).a7 (yK Q [] i).a8
    rw [h0] at hfew hll hnl eC
    have eL : lvL Q [] i = z9 := if_pos h0
    have eR : lvR Q [] i = z9 := if_pos h0
    rw [eL] at eX
    rw [eR] at eY
    have hp := Zmf hT hll (xK Q [] i) (yK Q [] i) (cK Q i)
    try rw [hT] at hp
    have hc := ZnZ m Q (lAt Q i) (cK Q i) (i : Nat) (Zi (xK Q [] i) z9).a0 (Zi (xK Q [] i) z9).a1 (Zi (xK Q [] i) z9).a2 (Zi (xK Q [] i) z9).a3 (Zi (xK Q [] i) z9).a4 (Zi (xK Q [] i) z9).a5 (Zi (xK Q [] i) z9).a6 (Zi (xK Q [] i) z9).a7 (Zi (xK Q [] i) z9).a8 (Zi (yK Q [] i) z9).a0 (Zi (yK Q [] i) z9).a1 (Zi (yK Q [] i) z9).a2 (Zi (yK Q [] i) z9).a3 (Zi (yK Q [] i) z9).a4 (Zi (yK Q [] i) z9).a5 (Zi (yK Q [] i) z9).a6 (Zi (yK Q [] i) z9).a7 (Zi (yK Q [] i) z9).a8 (IntKind.i64.wrap (cK Q i + (0 : Nat))) (xK Q [] i).a0 (xK Q [] i).a1 (xK Q [] i).a2 (xK Q [] i).a3 (xK Q [] i).a4 (xK Q [] i).a5 (xK Q [] i).a6 (xK Q [] i).a7 (xK Q [] i).a8 (yK Q [] i).a0 (yK Q [] i).a1 (yK Q [] i).a2 (yK Q [] i).a3 (yK Q [] i).a4 (yK Q [] i).a5 (yK Q [] i).a6 (yK Q [] i).a7 (yK Q [] i).a8
    simp only [Int.natCast_zero] at hp hc eC
    simp -implicitDefEqProofs (maxSteps := 2000000) only [csn, f4_4, f4_4_0, asI_i, Zc, Zd, Zb, I4, I8, I16, Zh, Zj, Zv, Zar, ZQ, Za, Bool.cond_decide, if_pos i1, if_pos i2, if_pos i3, Int.toNat_natCast, hg, ZH, hr, hfew, hp, hc, Zeb, ZiW, Zcb, g19, g19_1, g20, g20_1, Zk, ZF, Z0, Zag, Zbw, ne_eq, not_true_eq_false, if_false, decide_true, Bool.not_true, cond_false, Int.natCast_zero, eX, eY, eC, w2]
    try rfl
  · have hfew := Zn3 m Q i (cK Q i) (i : Nat) (xK Q [] i).a0 (xK Q [] i).a1 (xK Q [] i).a2 (xK Q [] i).a3 (xK Q [] i).a4 (xK Q [] i).a5 (xK Q [] i).a6 (xK Q [] i).a7 (xK Q [] i).a8 (yK Q [] i).a0 (yK Q [] i).a1 (yK Q [] i).a2 (yK Q [] i).a3 (yK Q [] i).a4 (yK Q [] i).a5 (yK Q [] i).a6 (yK Q [] i).a7 (yK Q [] i).a8 (cK Q i) (xK Q [] i).a0 (xK Q [] i).a1 (xK Q [] i).a2 (xK Q [] i).a3 (xK Q [] i).a4 (xK Q [] i).a5 (xK Q [] i).a6 (xK Q [] i).a7 (xK Q [] i).a8 (yK Q [] i).a0 (yK Q [] i).a1 (yK Q [] i).a2 (yK Q [] i).a3 (yK Q [] i).a4 (yK Q [] i).a5 (yK Q [] i).a6 (yK Q [] i).a7 (yK Q [] i).a8
    have eL : lvL Q [] i = ofV (ZW (outK (tK Q [] i) (lAt Q i) (nAt Q i)) (nAt Q i)) := if_neg h0
    have eR : lvR Q [] i = ofV (ZG (outK (tK Q [] i) (lAt Q i) (nAt Q i)) (nAt Q i)) := if_neg h0
    rw [eL] at eX
    rw [eR] at eY
    have hp := Zme hT h0 (by omega) hll (xK Q [] i) (yK Q [] i) (cK Q i)
    have hc := Zom (n := nAt Q i) hnl hll m Q (cK Q i) (i : Nat) (Zi (xK Q [] i) (ofV (ZW (outK (tK Q [] i) (lAt Q i) (nAt Q i)) (nAt Q i)))).a0 (Zi (xK Q [] i) (ofV (ZW (outK (tK Q [] i) (lAt Q i) (nAt Q i)) (nAt Q i)))).a1 (Zi (xK Q [] i) (ofV (ZW (outK (tK Q [] i) (lAt Q i) (nAt Q i)) (nAt Q i)))).a2 (Zi (xK Q [] i) (ofV (ZW (outK (tK Q [] i) (lAt Q i) (nAt Q i)) (nAt Q i)))).a3 (Zi (xK Q [] i) (ofV (ZW (outK (tK Q [] i) (lAt Q i) (nAt Q i)) (nAt Q i)))).a4 (Zi (xK Q [] i) (ofV (ZW (outK (tK Q [] i) (lAt Q i) (nAt Q i)) (nAt Q i)))).a5 (Zi (xK Q [] i) (ofV (ZW (outK (tK Q [] i) (lAt Q i) (nAt Q i)) (nAt Q i)))).a6 (Zi (xK Q [] i) (ofV (ZW (outK (tK Q [] i) (lAt Q i) (nAt Q i)) (nAt Q i)))).a7 (Zi (xK Q [] i) (ofV (ZW (outK (tK Q [] i) (lAt Q i) (nAt Q i)) (nAt Q i)))).a8 (Zi (yK Q [] i) (ofV (ZG (outK (tK Q [] i) (lAt Q i) (nAt Q i)) (nAt Q i)))).a0 (Zi (yK Q [] i) (ofV (ZG (outK (tK Q [] i) (lAt Q i) (nAt Q i)) (nAt Q i)))).a1 (Zi (yK Q [] i) (ofV (ZG (outK (tK Q [] i) (lAt Q i) (nAt Q i)) (nAt Q i)))).a2 (Zi (yK Q [] i) (ofV (ZG (outK (tK Q [] i) (lAt Q i) (nAt Q i)) (nAt Q i)))).a3 (Zi (yK Q [] i) (ofV (ZG (outK (tK Q [] i) (lAt Q i) (nAt Q i)) (nAt Q i)))).a4 (Zi (yK Q [] i) (ofV (ZG (outK (tK Q [] i) (lAt Q i) (nAt Q i)) (nAt Q i)))).a5 (Zi (yK Q [] i) (ofV (ZG (outK (tK Q [] i) (lAt Q i) (nAt Q i)) (nAt Q i)))).a6 (Zi (yK Q [] i) (ofV (ZG (outK (tK Q [] i) (lAt Q i) (nAt Q i)) (nAt Q i)))).a7 (Zi (yK Q [] i) (ofV (ZG (outK (tK Q [] i) (lAt Q i) (nAt Q i)) (nAt Q i)))).a8 (IntKind.i64.wrap (cK Q i + (nAt Q i : Nat))) (xK Q [] i).a0 (xK Q [] i).a1 (xK Q [] i).a2 (xK Q [] i).a3 (xK Q [] i).a4 (xK Q [] i).a5 (xK Q [] i).a6 (xK Q [] i).a7 (xK Q [] i).a8 (yK Q [] i).a0 (yK Q [] i).a1 (yK Q [] i).a2 (yK Q [] i).a3 (yK Q [] i).a4 (yK Q [] i).a5 (yK Q [] i).a6 (yK Q [] i).a7 (yK Q [] i).a8
    rw [hT] at hp
    simp only [hT] at hc eX eY
    have ho := Zdj ([]) (lAt Q i) (nAt Q i)
    have h1 := Zea (outK ([]) (lAt Q i) (nAt Q i)) (nAt Q i) h0 (by omega) (ZaI _ _ _)
    have h2 := ZdT (ZW (outK ([]) (lAt Q i) (nAt Q i)) (nAt Q i)) (nAt Q i) (Zcc _ _) (by omega) (Zd9 ho (nAt Q i))
    have h3 := ZdT (ZG (outK ([]) (lAt Q i) (nAt Q i)) (nAt Q i)) (nAt Q i) (Zby _ _) (by omega) (Zdk ho (nAt Q i))
    simp -implicitDefEqProofs (maxSteps := 2000000) only [csn, f4_4, f4_4_0, asI_i, Zc, Zd, Zb, I4, I8, I16, Zh, Zj, Zv, Zar, ZQ, Za, Bool.cond_decide, if_pos i1, if_pos i2, if_pos i3, Int.toNat_natCast, hg, ZH, hr, hfew, hp, hc, h1, h2, h3, Zcb, g19, g19_1, g20, g20_1, Zk, ZF, Z0, Zag, Zbw, ne_eq, not_true_eq_false, if_false, decide_true, Bool.not_true, cond_false, eX, eY, eC, w2]
    try rfl
theorem Znh {m : Nat} {Q : List NC} (hQ : Q.length = m) (he : Zh0 Q) : ∃ r, L4_4 (csn m Q 0) = some (0, r) ∧ r = (I16 (xK Q [] (min m 10)).a0 (xK Q [] (min m 10)).a1 (xK Q [] (min m 10)).a2 (xK Q [] (min m 10)).a3 (xK Q [] (min m 10)).a4 (xK Q [] (min m 10)).a5 (xK Q [] (min m 10)).a6 (xK Q [] (min m 10)).a7 (xK Q [] (min m 10)).a8 (yK Q [] (min m 10)).a0 (yK Q [] (min m 10)).a1 (yK Q [] (min m 10)).a2 (yK Q [] (min m 10)).a3 (yK Q [] (min m 10)).a4 (yK Q [] (min m 10)).a5 (yK Q [] (min m 10)).a6 (I16 (yK Q [] (min m 10)).a7 (yK Q [] (min m 10)).a8 (cK Q (min m 10)) (xK Q [] (min m 10)).a0 (xK Q [] (min m 10)).a1 (xK Q [] (min m 10)).a2 (xK Q [] (min m 10)).a3 (xK Q [] (min m 10)).a4 (xK Q [] (min m 10)).a5 (xK Q [] (min m 10)).a6 (xK Q [] (min m 10)).a7 (xK Q [] (min m 10)).a8 (yK Q [] (min m 10)).a0 (yK Q [] (min m 10)).a1 (yK Q [] (min m 10)).a2 (yK Q [] (min m 10)).a3 (I4 (yK Q [] (min m 10)).a4 (yK Q [] (min m 10)).a5 (yK Q [] (min m 10)).a6 (yK Q [] (min m 10)).a7 [.i (yK Q [] (min m 10)).a8]))) := by
  refine ⟨_, Zp (m := 2) (f := f4_4) (csn m Q) (min m 10) (j := 0) (fun k hk => ⟨Zn4 hQ he (by omega) (by omega), by show 0 < 2; omega⟩) ?_ (by omega), rfl⟩
  by_cases h : m ≤ 10
  · have e : min m 10 = m := by omega
    rw [e]
    simp -implicitDefEqProofs only [csn, f4_4, f4_4_0, asI_i, Zc, Zd, Zb, I4, I8, I16, Zh, Zj, Zv, Zar, ZQ, Za, Bool.cond_decide, if_neg (Int.lt_irrefl _)]
  · have e : min m 10 = 10 := by omega
    rw [e]
    simp -implicitDefEqProofs only [csn, f4_4, f4_4_0, asI_i, Zc, Zd, Zb, I4, I8, I16, Zh, Zj, Zv, Zar, ZQ, Za, Bool.cond_decide, if_pos (show ((10 : Nat) : Int) < m by omega), if_neg (show ¬ ((10 : Nat) : Int) < 10 by omega)]
end Go.Proofs.Ytlbfafbhflblcaa
