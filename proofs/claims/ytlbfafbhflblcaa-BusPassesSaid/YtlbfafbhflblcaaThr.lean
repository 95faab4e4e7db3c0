/-
  Samples through all parts, the program's and the document's; how loud they are. Conditions: none.
-/
import Derived.Test.YtlbfafbhflblcaaStp
import Derived.Test.YtlbfafbhflblcaaMet
namespace Go.Proofs.Ytlbfafbhflblcaa
open Go Go.Sx P
set_option maxRecDepth 100000
set_option linter.unusedVariables false
attribute [local simp] asI_i Zc Zd Zb ZQ Zj Zh Ze3 Za Zat Zk ZF Z0 Zag ZH Zau Bool.cond_decide Bool.cond_not Int.toNat_natCast
set_option linter.unusedSimpArgs false
instance : Inhabited Sg := ⟨⟨⟨0, 0, 0, 0, 0, 0, 0, 0, 0, 0⟩, Fi.z4, Fi.z4, 0, fun _ => 0, fun _ => 0⟩⟩
theorem Zgk {α : Type} (x y : Int) (m : ME) (K : Int → Int → ME → α) (z : α) : trK (some (x, y, m)) K z = K x y m := rfl
def run (ss : List Sg) (x y : Int) : Nat → Int × Int × List Sg
  | 0 => (x, y, ss)
  | k + 1 => ((ss.getD k default).outL (run ss x y k).1 (run ss x y k).2.1, (ss.getD k default).outR (run ss x y k).1 (run ss x y k).2.1, (run ss x y k).2.2.set k ((ss.getD k default).nxt (run ss x y k).1 (run ss x y k).2.1))
theorem ZhP (ss : List Sg) (x y : Int) : ∀ k, (run ss x y k).2.2.length = ss.length
  | 0 => rfl
  | k + 1 => by rw [run]; simp only [List.length_set]; exact ZhP ss x y k
theorem ZfA {ss : List Sg} {k : Nat} (h : k < ss.length) : ss[k]? = some (ss.getD k default) := by
  rw [List.getD_eq_getElem?_getD, List.getElem?_eq_getElem h]; rfl
theorem Zll (ss : List Sg) (x y : Int) : ∀ k j, k ≤ j → (run ss x y k).2.2[j]? = ss[j]?
  | 0, j, _ => rfl
  | k + 1, j, h => by
    rw [run]
    simp only
    rw [List.getElem?_set_ne (by omega)]
    exact Zll ss x y k j (by omega)
theorem ZfB (ss : List Sg) {x y : Int} (hx : In16 x) (hy : In16 y) : ∀ k, In16 (run ss x y k).1 ∧ In16 (run ss x y k).2.1
  | 0 => ⟨hx, hy⟩
  | k + 1 => ZnL (s := ss.getD k default) (ZfB ss hx hy k).1 (ZfB ss hx hy k).2
def Fine (B : Nat) (ss : List Sg) : Prop := ∀ s ∈ ss, s.ok ∧ s.n ≤ B
theorem Zlm {B : Nat} {ss : List Sg} (h : Fine B ss) (x y : Int) : ∀ k, k ≤ ss.length → Fine (B + 1) (run ss x y k).2.2
  | 0, _ => fun s hs => ⟨(h s hs).1, by have := (h s hs).2; omega⟩
  | k + 1, hk => fun s hs => by
    rw [run] at hs
    rcases List.mem_or_eq_of_mem_set hs with h1 | h1
    · exact Zlm h x y k (by omega) s h1
    · have hm : ss.getD k default ∈ ss := List.mem_of_getElem? (ZfA (by omega))
      subst h1
      exact ⟨Znc (h _ hm).1 _ _, by have := Zod (ss.getD k default) (run ss x y k).1 (run ss x y k).2.1; have := (h _ hm).2; omega⟩
theorem Zln (ss : List Sg) (x y : Int) (f : Sg → ME) {k : Nat} (h : k < ss.length) : ((run ss x y k).2.2.map f)[k]? = some (f (ss.getD k default)) := by
  rw [List.getElem?_map, Zll ss x y k k (Nat.le_refl _), ZfA h]; rfl
theorem ZhQ (ss : List Sg) (x y : Int) (f : Sg → ME) (k : Nat) : ((run ss x y k).2.2.map f).set k (f ((ss.getD k default).nxt (run ss x y k).1 (run ss x y k).2.1)) = (run ss x y (k + 1)).2.2.map f := by
  rw [run, List.map_set]
theorem Zmb {ss : List Sg} {N : Nat} (hN : ss.length = N) (hm : N ≤ 16) (hs : Fine 999 ss) {x y : Int} (hx : In16 x) (hy : In16 y) : Zk5 (0, .n N :: .i 0 :: .t (ss.map Sg.toP) :: I4 x y 0 0 []) = some (0, .t ((run ss x y N).2.2.map Sg.toP) :: I4 (run ss x y N).1 (run ss x y N).2.1 0 0 []) := by
  refine Zp (m := 2) (f := f15_0) (fun k => (0, .n N :: .i k :: .t ((run ss x y k).2.2.map Sg.toP) :: I4 (run ss x y k).1 (run ss x y k).2.1 0 0 [])) N (fun k hk => ⟨?_, by show 0 < 2; omega⟩) ?_ (by omega)
  · have hi := ZfB ss hx hy k
    have hmem : ss.getD k default ∈ ss := List.mem_of_getElem? (ZfA (by omega))
    have hp := Zlh (hs _ hmem).1 (by have := (hs _ hmem).2; omega) hi.1 hi.2
    have hset := ZhQ ss x y Sg.toP k
    have hlen : ((run ss x y k).2.2.map Sg.toP).length = N := by rw [List.length_map, ZhP, hN]
    have w2 : IntKind.i64.wrap ((k : Int) + 1) = ((k + 1 : Nat) : Int) := Z6 (n := k + 1) (by omega)
    have e1 : (run ss x y (k + 1)).1 = (ss.getD k default).outL (run ss x y k).1 (run ss x y k).2.1 := rfl
    have e2 : (run ss x y (k + 1)).2.1 = (ss.getD k default).outR (run ss x y k).1 (run ss x y k).2.1 := rfl
    simp -implicitDefEqProofs only [f15_0, f15_0_0, asI_i, Zc, Zd, Zb, I4, I8, I16, Zh, Zv, Za, Bool.cond_decide, if_pos (show (k : Int) < N by omega), if_pos (show (0 : Int) ≤ k ∧ (k : Int) < N by omega), Int.toNat_natCast, hlen, if_pos hk, Zln ss x y Sg.toP (show k < ss.length by omega), ZH, hp, Zgk, w2, hset, e1, e2]
  · simp -implicitDefEqProofs only [f15_0, f15_0_0, asI_i, Zc, Zd, Zb, I4, I8, I16, Zh, Zv, Za, Bool.cond_decide, if_neg (Int.lt_irrefl _)]
theorem Zhk (x : Int) : In16 (satV x) := Zdx x
theorem ZnN {ss : List Sg} {N : Nat} (hN : ss.length = N) (hm : N ≤ 16) (hs : Fine 999 ss) (x y : Int) : g15 (0, [.n N, .i x, .i y, .t (ss.map Sg.toP)]) = some (0, [.i (run ss (satV x) (satV y) N).1, .i (run ss (satV x) (satV y) N).2.1, .t ((run ss (satV x) (satV y) N).2.2.map Sg.toP)]) := by
  have hl := Zmb hN hm hs (Zhk x) (Zhk y)
  simp -implicitDefEqProofs only [g15, g15_0, asI_i, Zc, Zd, Zb, I4, I8, I16, Zh, Zv, Za, Zd7, Zk, hl]
theorem ZnO (x y : Int) : g15 (1, [.i x, .i y]) = some (1, [.i (satV x), .i (satV y)]) := by
  have hl : Zk5 (1, I4 0 (satV x) (satV y) 0 [.i 0]) = some (1, I4 (satV x) (satV y) 0 0 []) := by
    refine Zp (m := 2) (f := f15_0) (fun k => (1, I4 0 (satV x) (satV y) 0 [.i 0])) 0 (fun k hk => absurd hk (Nat.not_lt_zero _)) ?_ (by omega)
    simp -implicitDefEqProofs only [f15_0, f15_0_1, asI_i, Zc, Zd, Zb, I4, I8, I16, Zh, Zv, Za, Bool.cond_decide, if_neg (Int.lt_irrefl _)]
  simp -implicitDefEqProofs only [g15, g15_1, asI_i, Zc, Zd, Zb, I4, I8, I16, Zh, Zv, Za, Zd7, Zk, ZF, hl]
theorem Zof {ss : List Sg} {N B : Nat} (hN : ss.length = N) (hm : N ≤ 16) (hs : Fine B ss) {x y : Int} (hx : In16 x) (hy : In16 y) (t1n t13n : Nat) (t1 t13 : List Int) (t14 t15 v1 v2 v3 v4 v5 v6 v7 v8 v9 v10 v11 v12 v13 v14 v15 v16 v17 v18 v19 : Int) : Zgf (0, .n t1n :: .l t1 :: .n t13n :: .l t13 :: I4 t14 t15 N 0 (.n N :: I16 v1 v2 v3 v4 v5 v6 v7 v8 v9 v10 v11 v12 v13 v14 v15 v16 [.i v17, .i v18, .i v19, .t (ss.map Sg.toS), .i x, .i y])) = some (0, .n t1n :: .l t1 :: .n t13n :: .l t13 :: .i t14 :: .i t15 :: .n N :: I16 v1 v2 v3 v4 v5 v6 v7 v8 v9 v10 v11 v12 v13 v14 v15 v16 [.i v17, .i v18, .i v19, .t ((run ss x y N).2.2.map Sg.toS), .i (run ss x y N).1, .i (run ss x y N).2.1]) := by
  refine Zp (m := 4) (f := f14_0) (fun k => (0, .n t1n :: .l t1 :: .n t13n :: .l t13 :: I4 t14 t15 N k (.n N :: I16 v1 v2 v3 v4 v5 v6 v7 v8 v9 v10 v11 v12 v13 v14 v15 v16 [.i v17, .i v18, .i v19, .t ((run ss x y k).2.2.map Sg.toS), .i (run ss x y k).1, .i (run ss x y k).2.1]))) N (fun k hk => ⟨?_, by show 0 < 4; omega⟩) ?_ (by omega)
  · have hi := ZfB ss hx hy k
    have hmem : ss.getD k default ∈ ss := List.mem_of_getElem? (ZfA (by omega))
    have hp := ZiV (hs _ hmem).1 hi.1 hi.2
    have hset := ZhQ ss x y Sg.toS k
    have w2 : IntKind.i64.wrap ((k : Int) + 1) = ((k + 1 : Nat) : Int) := Z6 (n := k + 1) (by omega)
    have e1 : (run ss x y (k + 1)).1 = (ss.getD k default).outL (run ss x y k).1 (run ss x y k).2.1 := rfl
    have e2 : (run ss x y (k + 1)).2.1 = (ss.getD k default).outR (run ss x y k).1 (run ss x y k).2.1 := rfl
    have d1 : k * 14 % 14 = 0 := Nat.mul_mod_left k 14
    have d2 : k * 14 / 14 = k := Nat.mul_div_cancel k (by omega)
    simp -implicitDefEqProofs only [f14_0, f14_0_0, asI_i, Zc, Zd, Zb, I4, I8, I16, Zh, Zj, Zv, Za, Bool.cond_decide, if_pos (show (k : Int) < N by omega), if_pos (show (0 : Int) ≤ k ∧ (k : Int) < N by omega), Int.toNat_natCast, if_pos d1, d2, Zln ss x y Sg.toS (show k < ss.length by omega), ZH, hp, Zgk, w2, hset, e1, e2]
  · simp -implicitDefEqProofs only [f14_0, f14_0_0, asI_i, Zc, Zd, Zb, I4, I8, I16, Zh, Zj, Zv, Za, Bool.cond_decide, if_neg (Int.lt_irrefl _)]
theorem Zog {ss : List Sg} {N B : Nat} (hN : ss.length = N) (hm : N ≤ 16) (hs : Fine B ss) {x y : Int} (hx : In16 x) (hy : In16 y) (t1n t13n t5n : Nat) (t1 t13 : List Int) (h2 : List Int) (t14 t15 v1 v2 v3 v4 v5 v6 v7 v8 v9 v10 v11 v12 v13 v14 v15 v16 v17 v18 v19 : Int) : Zgf (2, .n t1n :: .l t1 :: .n t5n :: .n t13n :: .l t13 :: I4 t14 t15 N 0 (.n N :: I16 v1 v2 v3 v4 v5 v6 v7 v8 v9 v10 v11 v12 v13 v14 v15 v16 [.i v17, .i v18, .i v19, .t (ss.map Sg.toS), .l h2, .i x, .i y])) = some (2, .n t1n :: .l t1 :: .n t5n :: .n t13n :: .l t13 :: .i t14 :: .i t15 :: .n N :: I16 v1 v2 v3 v4 v5 v6 v7 v8 v9 v10 v11 v12 v13 v14 v15 v16 [.i v17, .i v18, .i v19, .t ((run ss x y N).2.2.map Sg.toS), .l h2, .i (run ss x y N).1, .i (run ss x y N).2.1]) := by
  refine Zp (m := 4) (f := f14_0) (fun k => (2, .n t1n :: .l t1 :: .n t5n :: .n t13n :: .l t13 :: I4 t14 t15 N k (.n N :: I16 v1 v2 v3 v4 v5 v6 v7 v8 v9 v10 v11 v12 v13 v14 v15 v16 [.i v17, .i v18, .i v19, .t ((run ss x y k).2.2.map Sg.toS), .l h2, .i (run ss x y k).1, .i (run ss x y k).2.1]))) N (fun k hk => ⟨?_, by show 2 < 4; omega⟩) ?_ (by omega)
  · have hi := ZfB ss hx hy k
    have hmem : ss.getD k default ∈ ss := List.mem_of_getElem? (ZfA (by omega))
    have hp := ZiV (hs _ hmem).1 hi.1 hi.2
    have hset := ZhQ ss x y Sg.toS k
    have w2 : IntKind.i64.wrap ((k : Int) + 1) = ((k + 1 : Nat) : Int) := Z6 (n := k + 1) (by omega)
    have e1 : (run ss x y (k + 1)).1 = (ss.getD k default).outL (run ss x y k).1 (run ss x y k).2.1 := rfl
    have e2 : (run ss x y (k + 1)).2.1 = (ss.getD k default).outR (run ss x y k).1 (run ss x y k).2.1 := rfl
    have d1 : k * 14 % 14 = 0 := Nat.mul_mod_left k 14
    have d2 : k * 14 / 14 = k := Nat.mul_div_cancel k (by omega)
    simp -implicitDefEqProofs only [f14_0, f14_0_2, asI_i, Zc, Zd, Zb, I4, I8, I16, Zh, Zj, Zv, Za, Bool.cond_decide, if_pos (show (k : Int) < N by omega), if_pos (show (0 : Int) ≤ k ∧ (k : Int) < N by omega), Int.toNat_natCast, if_pos d1, d2, Zln ss x y Sg.toS (show k < ss.length by omega), ZH, hp, Zgk, w2, hset, e1, e2]
  · simp -implicitDefEqProofs only [f14_0, f14_0_2, asI_i, Zc, Zd, Zb, I4, I8, I16, Zh, Zj, Zv, Za, Bool.cond_decide, if_neg (Int.lt_irrefl _)]
theorem Zoh (t1n t13n : Nat) (t1 t13 : List Int) (t14 t15 v1 v2 v3 v4 v5 v6 v7 v8 v9 v10 v11 v12 v13 v14 v15 v16 v17 v18 v19 x y : Int) : Zgf (1, .n t1n :: .l t1 :: .n t13n :: .l t13 :: I16 t14 t15 0 0 v1 v2 v3 v4 v5 v6 v7 v8 v9 v10 v11 v12 (I8 v13 v14 v15 v16 v17 v18 v19 x [.i y])) = some (1, .n t1n :: .l t1 :: .n t13n :: .l t13 :: I16 t14 t15 v1 v2 v3 v4 v5 v6 v7 v8 v9 v10 v11 v12 v13 v14 (I4 v15 v16 v17 v18 [.i v19, .i x, .i y])) := by
  refine Zp (m := 4) (f := f14_0) (fun k => (1, .n t1n :: .l t1 :: .n t13n :: .l t13 :: I16 t14 t15 0 0 v1 v2 v3 v4 v5 v6 v7 v8 v9 v10 v11 v12 (I8 v13 v14 v15 v16 v17 v18 v19 x [.i y]))) 0 (fun k hk => absurd hk (Nat.not_lt_zero _)) ?_ (by omega)
  simp -implicitDefEqProofs only [f14_0, f14_0_1, asI_i, Zc, Zd, Zb, I4, I8, I16, Zh, Zj, Zv, Za, Bool.cond_decide, if_neg (Int.lt_irrefl _)]
theorem Zoi (t1n t13n t5n : Nat) (t1 t13 : List Int) (h2 : List Int) (t14 t15 v1 v2 v3 v4 v5 v6 v7 v8 v9 v10 v11 v12 v13 v14 v15 v16 v17 v18 v19 x y : Int) : Zgf (3, .n t1n :: .l t1 :: .n t5n :: .n t13n :: .l t13 :: I16 t14 t15 0 0 v1 v2 v3 v4 v5 v6 v7 v8 v9 v10 v11 v12 (I4 v13 v14 v15 v16 [.i v17, .i v18, .i v19, .l h2, .i x, .i y])) = some (3, .n t1n :: .l t1 :: .n t5n :: .n t13n :: .l t13 :: I16 t14 t15 v1 v2 v3 v4 v5 v6 v7 v8 v9 v10 v11 v12 v13 v14 (I4 v15 v16 v17 v18 [.i v19, .l h2, .i x, .i y])) := by
  refine Zp (m := 4) (f := f14_0) (fun k => (3, .n t1n :: .l t1 :: .n t5n :: .n t13n :: .l t13 :: I16 t14 t15 0 0 v1 v2 v3 v4 v5 v6 v7 v8 v9 v10 v11 v12 (I4 v13 v14 v15 v16 [.i v17, .i v18, .i v19, .l h2, .i x, .i y]))) 0 (fun k hk => absurd hk (Nat.not_lt_zero _)) ?_ (by omega)
  simp -implicitDefEqProofs only [f14_0, f14_0_3, asI_i, Zc, Zd, Zb, I4, I8, I16, Zh, Zj, Zv, Za, Bool.cond_decide, if_neg (Int.lt_irrefl _)]
def ssK (ss : List Sg) (l : List Int) : Nat → List Sg
  | 0 => ss
  | k + 1 => (run (ssK ss l k) (satV (l.getD (k * 2) 0)) (satV (l.getD (k * 2 + 1) 0)) ss.length).2.2
def oL (ss : List Sg) (l : List Int) (k : Nat) : Int := (run (ssK ss l k) (satV (l.getD (k * 2) 0)) (satV (l.getD (k * 2 + 1) 0)) ss.length).1
def oR (ss : List Sg) (l : List Int) (k : Nat) : Int := (run (ssK ss l k) (satV (l.getD (k * 2) 0)) (satV (l.getD (k * 2 + 1) 0)) ss.length).2.1
def outK (ss : List Sg) (l : List Int) : Nat → List Int
  | 0 => []
  | k + 1 => outK ss l k ++ [oL ss l k, oR ss l k]
theorem Zdz (ss : List Sg) (l : List Int) : ∀ k, (ssK ss l k).length = ss.length
  | 0 => rfl
  | k + 1 => by rw [ssK, ZhP]; exact Zdz ss l k
theorem Zdi {B : Nat} {ss : List Sg} (h : Fine B ss) (l : List Int) : ∀ k, Fine (B + k) (ssK ss l k)
  | 0 => h
  | k + 1 => by
    rw [ssK]
    exact Zlm (Zdi h l k) _ _ _ (by rw [Zdz]; exact Nat.le_refl _)
theorem o_in (ss : List Sg) (l : List Int) (k : Nat) : In16 (oL ss l k) ∧ In16 (oR ss l k) := ZfB _ (Zhk _) (Zhk _) _
theorem ZaI (ss : List Sg) (l : List Int) : ∀ k, (outK ss l k).length = k * 2
  | 0 => rfl
  | k + 1 => by rw [outK, List.length_append, ZaI ss l k]; show k * 2 + 2 = _; omega
theorem Zdj (ss : List Sg) (l : List Int) : ∀ k, ∀ v ∈ outK ss l k, In16 v
  | 0, v, h => by cases h
  | k + 1, v, h => by
    rw [outK, List.mem_append] at h
    rcases h with h | h
    · exact Zdj ss l k v h
    · simp only [List.mem_cons, List.not_mem_nil, or_false] at h
      rcases h with rfl | rfl
      · exact (o_in ss l k).1
      · exact (o_in ss l k).2
theorem Zd8 (x y : Int) : g26 (0, [.i x, .i y]) = some (0, [.i (satV x), .i (satV y)]) := by
  simp -implicitDefEqProofs only [g26, g26_0, asI_i, Zc, Zd, Zb, I4, I8, I16, Za, ZiS, Zk]
def pSt (ss : List Sg) (N n : Nat) (l : List Int) (v1 v2 v3 v4 v5 v6 v7 v8 v9 v10 v11 v12 v13 v14 v15 v16 v17 v18 v19 : Int) : Nat → Nat × List Leaf
  | 0 => (0, .n n :: .l l :: .n n :: .l l :: .i n :: .i (0 : Nat) :: .n N :: I16 v1 v2 v3 v4 v5 v6 v7 v8 v9 v10 v11 v12 v13 v14 v15 v16 [.i v17, .i v18, .i v19, .t ((ssK ss l (0)).map Sg.toS)])
  | k + 1 => (2, .n n :: .l l :: .n (k + 1) :: .n n :: .l l :: .i n :: .i (k + 1 : Nat) :: .n N :: I16 v1 v2 v3 v4 v5 v6 v7 v8 v9 v10 v11 v12 v13 v14 v15 v16 [.i v17, .i v18, .i v19, .t ((ssK ss l (k + 1)).map Sg.toS), .l (outK ss l (k + 1))])
theorem Zlo {ss : List Sg} {N B : Nat} (hN : ss.length = N) (hm : N ≤ 16) (hs : Fine B ss) {n : Nat} (hn : n ≤ 1000) {l : List Int} (hl : l.length = n * 2) (v1 v2 v3 v4 v5 v6 v7 v8 v9 v10 v11 v12 v13 v14 v15 v16 v17 v18 v19 : Int) : Zk3 (pSt ss N n l v1 v2 v3 v4 v5 v6 v7 v8 v9 v10 v11 v12 v13 v14 v15 v16 v17 v18 v19 0) = if n = 0 then some (0, .n n :: .l l :: .n N :: I16 v1 v2 v3 v4 v5 v6 v7 v8 v9 v10 v11 v12 v13 v14 v15 v16 [.i v17, .i v18, .i v19, .t ((ssK ss l (0)).map Sg.toS)]) else some (2, .n n :: .l l :: .n (n) :: .n N :: I16 v1 v2 v3 v4 v5 v6 v7 v8 v9 v10 v11 v12 v13 v14 v15 v16 [.i v17, .i v18, .i v19, .t ((ssK ss l (n)).map Sg.toS), .l (outK ss l (n))]) := by
  have hi : ∀ k, k < n → (k : Int) < n ∧ ((0 : Int) ≤ k ∧ (k : Int) < n) ∧ k * 2 + 2 ≤ l.length ∧ IntKind.i64.wrap ((k : Int) + 1) = ((k + 1 : Nat) : Int) := fun k hk => ⟨by omega, by omega, by omega, Z6 (n := k + 1) (by omega)⟩
  by_cases h0 : n = 0
  · subst h0
    rw [if_pos rfl]
    refine Zp (m := 4) (f := f14_1) (pSt ss N 0 l v1 v2 v3 v4 v5 v6 v7 v8 v9 v10 v11 v12 v13 v14 v15 v16 v17 v18 v19) 0 (fun k hk => absurd hk (Nat.not_lt_zero _)) ?_ (by omega)
    simp -implicitDefEqProofs only [pSt, f14_1, f14_1_0, asI_i, Zc, Zd, Zb, I4, I8, I16, Zh, Zj, Zv, Za, Bool.cond_decide, if_neg (Int.lt_irrefl _)]
  · rw [if_neg h0]
    obtain ⟨q, rfl⟩ : ∃ q, n = q + 1 := ⟨n - 1, by omega⟩
    refine Zp (m := 4) (f := f14_1) (pSt ss N (q + 1) l v1 v2 v3 v4 v5 v6 v7 v8 v9 v10 v11 v12 v13 v14 v15 v16 v17 v18 v19) (q + 1) (fun k hk => ?_) ?_ (by omega)
    · obtain ⟨i1, i2, i3, w2⟩ := hi k hk
      match k, hk, i1, i2, i3, w2 with
      | 0, hk, i1, i2, i3, w2 =>
        have hp := Zof (ss := ssK ss l (0)) (N := N) (B := B + (0)) (by rw [Zdz]; exact hN) hm (Zdi hs l (0)) (Zhk (l.getD ((0) * 2) 0)) (Zhk (l.getD ((0) * 2 + 1) 0)) (q + 1) (q + 1) l l ((q + 1 : Nat) : Int) ((0 : Nat) : Int) v1 v2 v3 v4 v5 v6 v7 v8 v9 v10 v11 v12 v13 v14 v15 v16 v17 v18 v19
        refine ⟨?_, by show 2 < 4; omega⟩
        have e1 : ssK ss l 1 = (run (ssK ss l 0) (satV (l.getD (0 * 2) 0)) (satV (l.getD (0 * 2 + 1) 0)) N).2.2 := by subst hN; rfl
        have e2 : outK ss l 1 = [(run (ssK ss l 0) (satV (l.getD (0 * 2) 0)) (satV (l.getD (0 * 2 + 1) 0)) N).1, (run (ssK ss l 0) (satV (l.getD (0 * 2) 0)) (satV (l.getD (0 * 2 + 1) 0)) N).2.1] := by subst hN; rfl
        simp -implicitDefEqProofs only [pSt, f14_1, f14_1_0, asI_i, Zc, Zd, Zb, I4, I8, I16, Zh, Zj, Zv, Za, Bool.cond_decide, if_pos i1, if_pos i2, if_pos i3, Int.toNat_natCast, Zd8, hp, Zk, ZF, Z0, w2, e1, e2]
        try rfl
      | k + 1, hk, i1, i2, i3, w2 =>
        have hp := Zog (ss := ssK ss l (k + 1)) (N := N) (B := B + (k + 1)) (by rw [Zdz]; exact hN) hm (Zdi hs l (k + 1)) (Zhk (l.getD ((k + 1) * 2) 0)) (Zhk (l.getD ((k + 1) * 2 + 1) 0)) (q + 1) (q + 1) (k + 1) l l (outK ss l (k + 1)) ((q + 1 : Nat) : Int) ((k + 1 : Nat) : Int) v1 v2 v3 v4 v5 v6 v7 v8 v9 v10 v11 v12 v13 v14 v15 v16 v17 v18 v19
        have c1 : (k + 1 + 1) * 16 ≤ 70368744177664 := by omega
        have c2 : (outK ss l (k + 1)).length = (k + 1) * 2 := ZaI ss l (k + 1)
        refine ⟨?_, by show 2 < 4; omega⟩
        have e1 : ssK ss l (k + 1 + 1) = (run (ssK ss l (k + 1)) (satV (l.getD ((k + 1) * 2) 0)) (satV (l.getD ((k + 1) * 2 + 1) 0)) N).2.2 := by subst hN; rfl
        have e2 : outK ss l (k + 1 + 1) = outK ss l (k + 1) ++ [(run (ssK ss l (k + 1)) (satV (l.getD ((k + 1) * 2) 0)) (satV (l.getD ((k + 1) * 2 + 1) 0)) N).1, (run (ssK ss l (k + 1)) (satV (l.getD ((k + 1) * 2) 0)) (satV (l.getD ((k + 1) * 2 + 1) 0)) N).2.1] := by subst hN; rfl
        simp -implicitDefEqProofs only [pSt, f14_1, f14_1_2, asI_i, Zc, Zd, Zb, I4, I8, I16, Zh, Zj, Zv, Za, Bool.cond_decide, if_pos i1, if_pos i2, if_pos i3, Int.toNat_natCast, Zd8, hp, Zk, Z0, Zag, if_pos c1, if_pos c2, w2, e1, e2]
    · simp -implicitDefEqProofs only [pSt, f14_1, f14_1_2, asI_i, Zc, Zd, Zb, I4, I8, I16, Zh, Zj, Zv, Za, Bool.cond_decide, if_neg (Int.lt_irrefl _)]
def pSn (ss : List Sg) (N n : Nat) (l : List Int) (v1 v2 v3 v4 v5 v6 v7 v8 v9 v10 v11 v12 v13 v14 v15 v16 v17 v18 v19 : Int) : Nat → Nat × List Leaf
  | 0 => (1, .n n :: .l l :: .n n :: .l l :: I16 n (0 : Nat) v1 v2 v3 v4 v5 v6 v7 v8 v9 v10 v11 v12 v13 v14 (I4 v15 v16 v17 v18 [.i v19]))
  | k + 1 => (3, .n n :: .l l :: .n (k + 1) :: .n n :: .l l :: I16 n (k + 1 : Nat) v1 v2 v3 v4 v5 v6 v7 v8 v9 v10 v11 v12 v13 v14 (I4 v15 v16 v17 v18 [.i v19, .l (outK ss l (k + 1))]))
theorem Zlp {ss : List Sg} (hN : ss = []) {n : Nat} (hn : n ≤ 1000) {l : List Int} (hl : l.length = n * 2) (v1 v2 v3 v4 v5 v6 v7 v8 v9 v10 v11 v12 v13 v14 v15 v16 v17 v18 v19 : Int) : Zk3 (pSn ss 0 n l v1 v2 v3 v4 v5 v6 v7 v8 v9 v10 v11 v12 v13 v14 v15 v16 v17 v18 v19 0) = if n = 0 then some (1, .n n :: .l l :: I16 v1 v2 v3 v4 v5 v6 v7 v8 v9 v10 v11 v12 v13 v14 v15 v16 [.i v17, .i v18, .i v19]) else some (3, .n n :: .l l :: .n (n) :: I16 v1 v2 v3 v4 v5 v6 v7 v8 v9 v10 v11 v12 v13 v14 v15 v16 [.i v17, .i v18, .i v19, .l (outK ss l (n))]) := by
  have hi : ∀ k, k < n → (k : Int) < n ∧ ((0 : Int) ≤ k ∧ (k : Int) < n) ∧ k * 2 + 2 ≤ l.length ∧ IntKind.i64.wrap ((k : Int) + 1) = ((k + 1 : Nat) : Int) := fun k hk => ⟨by omega, by omega, by omega, Z6 (n := k + 1) (by omega)⟩
  by_cases h0 : n = 0
  · subst h0
    rw [if_pos rfl]
    refine Zp (m := 4) (f := f14_1) (pSn ss 0 0 l v1 v2 v3 v4 v5 v6 v7 v8 v9 v10 v11 v12 v13 v14 v15 v16 v17 v18 v19) 0 (fun k hk => absurd hk (Nat.not_lt_zero _)) ?_ (by omega)
    simp -implicitDefEqProofs only [pSn, f14_1, f14_1_1, asI_i, Zc, Zd, Zb, I4, I8, I16, Zh, Zj, Zv, Za, Bool.cond_decide, if_neg (Int.lt_irrefl _)]
  · rw [if_neg h0]
    obtain ⟨q, rfl⟩ : ∃ q, n = q + 1 := ⟨n - 1, by omega⟩
    refine Zp (m := 4) (f := f14_1) (pSn ss 0 (q + 1) l v1 v2 v3 v4 v5 v6 v7 v8 v9 v10 v11 v12 v13 v14 v15 v16 v17 v18 v19) (q + 1) (fun k hk => ?_) ?_ (by omega)
    · obtain ⟨i1, i2, i3, w2⟩ := hi k hk
      match k, hk, i1, i2, i3, w2 with
      | 0, hk, i1, i2, i3, w2 =>
        have hp := Zoh (q + 1) (q + 1) l l ((q + 1 : Nat) : Int) ((0 : Nat) : Int) v1 v2 v3 v4 v5 v6 v7 v8 v9 v10 v11 v12 v13 v14 v15 v16 v17 v18 v19 (satV (l.getD (0 * 2) 0)) (satV (l.getD (0 * 2 + 1) 0))
        refine ⟨?_, by show 3 < 4; omega⟩
        have e1 : ssK ss l 1 = (run (ssK ss l 0) (satV (l.getD (0 * 2) 0)) (satV (l.getD (0 * 2 + 1) 0)) 0).2.2 := by subst hN; rfl
        have e2 : outK ss l 1 = [(run (ssK ss l 0) (satV (l.getD (0 * 2) 0)) (satV (l.getD (0 * 2 + 1) 0)) 0).1, (run (ssK ss l 0) (satV (l.getD (0 * 2) 0)) (satV (l.getD (0 * 2 + 1) 0)) 0).2.1] := by subst hN; rfl
        have e3 : ∀ x y, (run (ssK ss l 0) x y 0) = (x, y, []) := fun x y => by subst hN; rfl
        simp only [e3] at e2
        simp -implicitDefEqProofs only [pSn, f14_1, f14_1_1, asI_i, Zc, Zd, Zb, I4, I8, I16, Zh, Zj, Zv, Za, Bool.cond_decide, if_pos i1, if_pos i2, if_pos i3, Int.toNat_natCast, Zd8, hp, Zk, ZF, Z0, w2, e1, e2]
        try rfl
      | k + 1, hk, i1, i2, i3, w2 =>
        have hp := Zoi (q + 1) (q + 1) (k + 1) l l (outK ss l (k + 1)) ((q + 1 : Nat) : Int) ((k + 1 : Nat) : Int) v1 v2 v3 v4 v5 v6 v7 v8 v9 v10 v11 v12 v13 v14 v15 v16 v17 v18 v19 (satV (l.getD ((k + 1) * 2) 0)) (satV (l.getD ((k + 1) * 2 + 1) 0))
        have c1 : (k + 1 + 1) * 16 ≤ 70368744177664 := by omega
        have c2 : (outK ss l (k + 1)).length = (k + 1) * 2 := ZaI ss l (k + 1)
        refine ⟨?_, by show 3 < 4; omega⟩
        have e1 : ssK ss l (k + 1 + 1) = (run (ssK ss l (k + 1)) (satV (l.getD ((k + 1) * 2) 0)) (satV (l.getD ((k + 1) * 2 + 1) 0)) 0).2.2 := by subst hN; rfl
        have e2 : outK ss l (k + 1 + 1) = outK ss l (k + 1) ++ [(run (ssK ss l (k + 1)) (satV (l.getD ((k + 1) * 2) 0)) (satV (l.getD ((k + 1) * 2 + 1) 0)) 0).1, (run (ssK ss l (k + 1)) (satV (l.getD ((k + 1) * 2) 0)) (satV (l.getD ((k + 1) * 2 + 1) 0)) 0).2.1] := by subst hN; rfl
        have e3 : ∀ x y, (run (ssK ss l (k + 1)) x y 0) = (x, y, ssK ss l (k + 1)) := fun x y => rfl
        simp only [e3] at e2
        simp -implicitDefEqProofs only [pSn, f14_1, f14_1_3, asI_i, Zc, Zd, Zb, I4, I8, I16, Zh, Zj, Zv, Za, Bool.cond_decide, if_pos i1, if_pos i2, if_pos i3, Int.toNat_natCast, Zd8, hp, Zk, Z0, Zag, if_pos c1, if_pos c2, w2, e1, e2]
    · simp -implicitDefEqProofs only [pSn, f14_1, f14_1_3, asI_i, Zc, Zd, Zb, I4, I8, I16, Zh, Zj, Zv, Za, Bool.cond_decide, if_neg (Int.lt_irrefl _)]
end Go.Proofs.Ytlbfafbhflblcaa
