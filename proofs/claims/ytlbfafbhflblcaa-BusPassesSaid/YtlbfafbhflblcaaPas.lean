/-
  What a bus makes of samples, and how loud that is. Conditions: none.
-/
import Derived.Test.YtlbfafbhflblcaaThr
namespace Go.Proofs.Ytlbfafbhflblcaa
open Go Go.Sx P
set_option maxRecDepth 100000
set_option linter.unusedVariables false
attribute [local simp] asI_i Zc Zd Zb ZQ Zj Zh Ze3 Za Zat Zk ZF Z0 Zag ZH Zau Bool.cond_decide Bool.cond_not Int.toNat_natCast
set_option linter.unusedSimpArgs false
structure L9 where
  a0 : Int
  a1 : Int
  a2 : Int
  a3 : Int
  a4 : Int
  a5 : Int
  a6 : Int
  a7 : Int
  a8 : Int
def z9 : L9 := ⟨0, 0, 0, 0, 0, 0, 0, 0, 0⟩
def Zi (a b : L9) : L9 := if a.a0 = 0 then b else if b.a0 = 0 then a else ⟨IntKind.i64.wrap (a.a0 + b.a0), if b.a1 > a.a1 then b.a1 else a.a1, if b.a2 < a.a2 then b.a2 else a.a2, if b.a3 > a.a3 then b.a3 else a.a3, IntKind.i64.wrap (a.a4 + b.a4), IntKind.i64.wrap (a.a5 + b.a5), IntKind.i64.wrap (a.a6 + b.a6), IntKind.i64.wrap (a.a7 + b.a7), if b.a8 > a.a8 then b.a8 else a.a8⟩
theorem Zcb (a b : L9) : g17 (0, I16 a.a0 a.a1 a.a2 a.a3 a.a4 a.a5 a.a6 a.a7 a.a8 b.a0 b.a1 b.a2 b.a3 b.a4 b.a5 b.a6 [.i b.a7, .i b.a8]) = some (0, I8 (Zi a b).a0 (Zi a b).a1 (Zi a b).a2 (Zi a b).a3 (Zi a b).a4 (Zi a b).a5 (Zi a b).a6 (Zi a b).a7 [.i (Zi a b).a8]) := by
  simp -implicitDefEqProofs only [g17, g17_0, asI_i, Zc, Zd, Zb, I4, I8, I16, Za, Bool.cond_decide, Zi]
  by_cases h : a.a0 = 0
  · simp only [if_pos h]
  · by_cases h2 : b.a0 = 0
    · simp only [if_neg h, if_pos h2]
    · simp only [if_neg h, if_neg h2]
def ofV (l : List Int) : L9 := ⟨(Me.lvK (fun k => l.getD k 0) l.length).n, (Me.lvK (fun k => l.getD k 0) l.length).pk, (Me.lvK (fun k => l.getD k 0) l.length).lo, (Me.lvK (fun k => l.getD k 0) l.length).hi, (Me.lvK (fun k => l.getD k 0) l.length).sm, (Me.lvK (fun k => l.getD k 0) l.length).pw, (Me.lvK (fun k => l.getD k 0) l.length).cr, (Me.lvK (fun k => l.getD k 0) l.length).cl, (Me.lvK (fun k => l.getD k 0) l.length).ru⟩
theorem ZdT (l : List Int) (N : Nat) (hl : l.length = N) (hm : N ≤ 1000) (hs : ∀ v ∈ l, In16 v) : g18 (0, [.n N, .l l]) = some (0, I8 (ofV l).a0 (ofV l).a1 (ofV l).a2 (ofV l).a3 (ofV l).a4 (ofV l).a5 (ofV l).a6 (ofV l).a7 [.i (ofV l).a8, .l l]) := by
  subst hl
  refine Me.of_ok l l.length rfl hm (fun k => l.getD k 0) rfl fun k => ?_
  by_cases h : k < l.length
  · have := hs _ (List.mem_of_getElem? (ZbO h))
    unfold In16 at this
    unfold Me.Small
    omega
  · have : l.getD k 0 = 0 := by simp [List.getElem?_eq_none (show l.length ≤ k by omega)]
    rw [this]
    unfold Me.Small
    omega
theorem ZiW : g18 (1, []) = some (1, I8 z9.a0 z9.a1 z9.a2 z9.a3 z9.a4 z9.a5 z9.a6 z9.a7 [.i z9.a8]) := by
  have hl : Zk2 (1, I16 0 0 0 0 0 0 0 0 0 0 0 0 0 0 0 0 (I4 0 0 0 0 [.i 0, .i 0])) = some (1, I16 0 0 0 0 0 0 0 0 0 0 0 0 0 0 0 0 [.i 0, .i 0]) := by
    refine Zp (m := 2) (f := f18_3) (fun k => (1, I16 0 0 0 0 0 0 0 0 0 0 0 0 0 0 0 0 (I4 0 0 0 0 [.i 0, .i 0]))) 0 (fun k hk => absurd hk (Nat.not_lt_zero _)) ?_ (by omega)
    simp -implicitDefEqProofs only [f18_3, f18_3_1, asI_i, Zc, Zd, Zb, I4, I8, I16, Za, Bool.cond_decide, if_neg (Int.lt_irrefl _)]
  simp -implicitDefEqProofs only [g18, g18_1, asI_i, Zc, Zd, Zb, I4, I8, I16, Za, hl, ZF, z9]
def ZW (O : List Int) (k : Nat) : List Int := (List.range k).map fun i => O.getD (i * 2) 0
def ZG (O : List Int) (k : Nat) : List Int := (List.range k).map fun i => O.getD (i * 2 + 1) 0
theorem Zjy (O : List Int) (k : Nat) : ZW O (k + 1) = ZW O k ++ [O.getD (k * 2) 0] := by unfold ZW; rw [List.range_succ, List.map_append]; rfl
theorem ZhR (O : List Int) (k : Nat) : ZG O (k + 1) = ZG O k ++ [O.getD (k * 2 + 1) 0] := by unfold ZG; rw [List.range_succ, List.map_append]; rfl
theorem Zcc (O : List Int) (k : Nat) : (ZW O k).length = k := by unfold ZW; rw [List.length_map, List.length_range]
theorem Zby (O : List Int) (k : Nat) : (ZG O k).length = k := by unfold ZG; rw [List.length_map, List.length_range]
theorem ZmD {O : List Int} (h : ∀ v ∈ O, In16 v) (i : Nat) : In16 (O.getD i 0) := by
  by_cases c : i < O.length
  · exact h _ (List.mem_of_getElem? (ZbO c))
  · have : O.getD i 0 = 0 := by simp [List.getElem?_eq_none (show O.length ≤ i by omega)]
    rw [this]
    unfold In16
    omega
theorem Zd9 {O : List Int} (h : ∀ v ∈ O, In16 v) (k : Nat) : ∀ v ∈ ZW O k, In16 v := fun v hv => by
  unfold ZW at hv
  obtain ⟨i, _, rfl⟩ := List.mem_map.1 hv
  exact ZmD h _
theorem Zdk {O : List Int} (h : ∀ v ∈ O, In16 v) (k : Nat) : ∀ v ∈ ZG O k, In16 v := fun v hv => by
  unfold ZG at hv
  obtain ⟨i, _, rfl⟩ := List.mem_map.1 hv
  exact ZmD h _
def sdS (O : List Int) (n : Nat) : Nat → Nat × List Leaf
  | 0 => (0, [.n n, .i n, .i (0 : Nat), .l O])
  | k + 1 => (2, [.n (k + 1), .n (k + 1), .n n, .i n, .i (k + 1 : Nat), .l O, .l (ZW O (k + 1)), .l (ZG O (k + 1))])
theorem Zea (O : List Int) (n : Nat) (h0 : n ≠ 0) (hn : n ≤ 1000) (hl : O.length = n * 2) : g16 (0, [.n n, .l O]) = some (1, [.n n, .n n, .l O, .l (ZW O n), .l (ZG O n)]) := by
  obtain ⟨q, rfl⟩ : ∃ q, n = q + 1 := ⟨n - 1, by omega⟩
  have hL : Zjv (sdS O (q + 1) 0) = some (2, [.n (q + 1), .n (q + 1), .l O, .l (ZW O (q + 1)), .l (ZG O (q + 1))]) := by
    refine Zp (m := 3) (f := f16_0) (sdS O (q + 1)) (q + 1) (fun k hk => ?_) ?_ (by omega)
    · have w2 : IntKind.i64.wrap ((k : Int) + 1) = ((k + 1 : Nat) : Int) := Z6 (n := k + 1) (by omega)
      match k, hk, w2 with
      | 0, hk, w2 =>
        refine ⟨?_, by show 2 < 3; omega⟩
        have e1 : ZW O (0 + 1) = [O.getD (0 * 2) 0] := rfl
        have e2 : ZG O (0 + 1) = [O.getD (0 * 2 + 1) 0] := rfl
        simp -implicitDefEqProofs only [sdS, f16_0, f16_0_0, asI_i, Zc, Zd, Zb, I4, I8, I16, Zh, Zj, Za, Bool.cond_decide, if_pos (show ((0 : Nat) : Int) < (q + 1 : Nat) by omega), if_pos (show (0 : Int) ≤ ((0 : Nat) : Int) ∧ ((0 : Nat) : Int) < (q + 1 : Nat) by omega), Int.toNat_natCast, if_pos (show 0 * 2 + 2 ≤ O.length by omega), w2, e1, e2]
        try rfl
      | k + 1, hk, w2 =>
        refine ⟨?_, by show 2 < 3; omega⟩
        simp -implicitDefEqProofs only [sdS, f16_0, f16_0_2, asI_i, Zc, Zd, Zb, I4, I8, I16, Zh, Zj, Za, Bool.cond_decide, if_pos (show ((k + 1 : Nat) : Int) < (q + 1 : Nat) by omega), if_pos (show (0 : Int) ≤ ((k + 1 : Nat) : Int) ∧ ((k + 1 : Nat) : Int) < (q + 1 : Nat) by omega), Int.toNat_natCast, if_pos (show (k + 1) * 2 + 2 ≤ O.length by omega), if_pos (show (k + 1 + 1) * 8 ≤ 70368744177664 by omega), if_pos (show (ZW O (k + 1)).length = (k + 1) * 1 by rw [Zcc]; omega), if_pos (show (ZG O (k + 1)).length = (k + 1) * 1 by rw [Zby]; omega), w2, Zjy O (k + 1), ZhR O (k + 1)]
    · simp -implicitDefEqProofs only [sdS, f16_0, f16_0_2, asI_i, Zc, Zd, Zb, I4, I8, I16, Zh, Zj, Za, Bool.cond_decide, if_neg (Int.lt_irrefl _)]
  replace hL : Zjv (0, [.n (q + 1), .i (q + 1 : Nat), .i 0, .l O]) = some (2, [.n (q + 1), .n (q + 1), .l O, .l (ZW O (q + 1)), .l (ZG O (q + 1))]) := hL
  simp -implicitDefEqProofs only [g16, g16_0, asI_i, Zc, Zd, Zb, I4, I8, I16, Zh, Zj, Za, hL, Z0]
theorem Zeb : g16 (1, []) = some (2, []) := by
  have hl : Zjv (1, [.i 0, .i 0]) = some (1, []) := by
    refine Zp (m := 3) (f := f16_0) (fun k => (1, [.i 0, .i 0])) 0 (fun k hk => absurd hk (Nat.not_lt_zero _)) ?_ (by omega)
    simp -implicitDefEqProofs only [f16_0, f16_0_1, asI_i, Zc, Zd, Zb, I4, I8, I16, Za, Bool.cond_decide, if_neg (Int.lt_irrefl _)]
  simp -implicitDefEqProofs only [g16, g16_1, asI_i, Zc, Zd, Zb, I4, I8, I16, Za, hl, ZF]
theorem Zmc {ss : List Sg} {N B : Nat} (hN : ss.length = N) (hm : N ≤ 16) (hs : Fine B ss) {n : Nat} (h0 : n ≠ 0) (hn : n ≤ 1000) {l : List Int} (hl : l.length = n * 2) (X Y : L9) (c : Int) : g14 (0, .n n :: .l l :: .n N :: I16 X.a0 X.a1 X.a2 X.a3 X.a4 X.a5 X.a6 X.a7 X.a8 Y.a0 Y.a1 Y.a2 Y.a3 Y.a4 Y.a5 Y.a6 [.i Y.a7, .i Y.a8, .i c, .t (ss.map Sg.toS)]) = some (2, .n n :: .n N :: I16 (Zi X (ofV (ZW (outK ss l n) n))).a0 (Zi X (ofV (ZW (outK ss l n) n))).a1 (Zi X (ofV (ZW (outK ss l n) n))).a2 (Zi X (ofV (ZW (outK ss l n) n))).a3 (Zi X (ofV (ZW (outK ss l n) n))).a4 (Zi X (ofV (ZW (outK ss l n) n))).a5 (Zi X (ofV (ZW (outK ss l n) n))).a6 (Zi X (ofV (ZW (outK ss l n) n))).a7 (Zi X (ofV (ZW (outK ss l n) n))).a8 (Zi Y (ofV (ZG (outK ss l n) n))).a0 (Zi Y (ofV (ZG (outK ss l n) n))).a1 (Zi Y (ofV (ZG (outK ss l n) n))).a2 (Zi Y (ofV (ZG (outK ss l n) n))).a3 (Zi Y (ofV (ZG (outK ss l n) n))).a4 (Zi Y (ofV (ZG (outK ss l n) n))).a5 (Zi Y (ofV (ZG (outK ss l n) n))).a6 [.i (Zi Y (ofV (ZG (outK ss l n) n))).a7, .i (Zi Y (ofV (ZG (outK ss l n) n))).a8, .i (IntKind.i64.wrap (c + (n : Nat))), .t ((ssK ss l n).map Sg.toS), .l (outK ss l n)]) := by
  have hr := Zlo hN hm hs hn hl X.a0 X.a1 X.a2 X.a3 X.a4 X.a5 X.a6 X.a7 X.a8 Y.a0 Y.a1 Y.a2 Y.a3 Y.a4 Y.a5 Y.a6 Y.a7 Y.a8 c
  rw [if_neg h0] at hr
  unfold pSt at hr
  simp only [ssK] at hr
  have ho := Zdj ss l n
  have hol := ZaI ss l n
  have h1 := Zea (outK ss l n) n h0 hn hol
  have h2 := ZdT (ZW (outK ss l n) n) n (Zcc _ _) hn (Zd9 ho n)
  have h3 := ZdT (ZG (outK ss l n) n) n (Zby _ _) hn (Zdk ho n)
  simp -implicitDefEqProofs only [g14, g14_0, asI_i, Zc, Zd, Zb, I4, I8, I16, Zh, Zj, Zv, Za]
  rw [show ((0 : Int)) = ((0 : Nat) : Int) from rfl, hr]
  simp -implicitDefEqProofs only [Z0, Zag, asI_i, Zc, Zd, Zb, I4, I8, I16, Zh, Zj, Zv, Za, h1, ZF, h2, Zk, Zcb, h3]
theorem Zmd {ss : List Sg} {N B : Nat} (hN : ss.length = N) (hm : N ≤ 16) (hs : Fine B ss) {l : List Int} (hl : l.length = 0 * 2) (X Y : L9) (c : Int) : g14 (0, .n 0 :: .l l :: .n N :: I16 X.a0 X.a1 X.a2 X.a3 X.a4 X.a5 X.a6 X.a7 X.a8 Y.a0 Y.a1 Y.a2 Y.a3 Y.a4 Y.a5 Y.a6 [.i Y.a7, .i Y.a8, .i c, .t (ss.map Sg.toS)]) = some (0, .n N :: I16 (Zi X z9).a0 (Zi X z9).a1 (Zi X z9).a2 (Zi X z9).a3 (Zi X z9).a4 (Zi X z9).a5 (Zi X z9).a6 (Zi X z9).a7 (Zi X z9).a8 (Zi Y z9).a0 (Zi Y z9).a1 (Zi Y z9).a2 (Zi Y z9).a3 (Zi Y z9).a4 (Zi Y z9).a5 (Zi Y z9).a6 [.i (Zi Y z9).a7, .i (Zi Y z9).a8, .i (IntKind.i64.wrap (c + (0 : Nat))), .t ((ssK ss l 0).map Sg.toS)]) := by
  have hr := Zlo hN hm hs (n := 0) (by omega) hl X.a0 X.a1 X.a2 X.a3 X.a4 X.a5 X.a6 X.a7 X.a8 Y.a0 Y.a1 Y.a2 Y.a3 Y.a4 Y.a5 Y.a6 Y.a7 Y.a8 c
  rw [if_pos rfl] at hr
  unfold pSt at hr
  simp only [ssK] at hr
  simp -implicitDefEqProofs only [g14, g14_0, asI_i, Zc, Zd, Zb, I4, I8, I16, Zh, Zj, Zv, Za, ssK]
  rw [show ((0 : Int)) = ((0 : Nat) : Int) from rfl, hr]
  simp -implicitDefEqProofs only [Zk, ZF, Z0, asI_i, Zc, Zd, Zb, I4, I8, I16, Zh, Zj, Zv, Za, Zeb, ZiW, Zcb]
theorem Zme {ss : List Sg} (hN : ss = []) {n : Nat} (h0 : n ≠ 0) (hn : n ≤ 1000) {l : List Int} (hl : l.length = n * 2) (X Y : L9) (c : Int) : g14 (1, .n n :: .l l :: I16 X.a0 X.a1 X.a2 X.a3 X.a4 X.a5 X.a6 X.a7 X.a8 Y.a0 Y.a1 Y.a2 Y.a3 Y.a4 Y.a5 Y.a6 [.i Y.a7, .i Y.a8, .i c]) = some (3, .n n :: I16 (Zi X (ofV (ZW (outK ss l n) n))).a0 (Zi X (ofV (ZW (outK ss l n) n))).a1 (Zi X (ofV (ZW (outK ss l n) n))).a2 (Zi X (ofV (ZW (outK ss l n) n))).a3 (Zi X (ofV (ZW (outK ss l n) n))).a4 (Zi X (ofV (ZW (outK ss l n) n))).a5 (Zi X (ofV (ZW (outK ss l n) n))).a6 (Zi X (ofV (ZW (outK ss l n) n))).a7 (Zi X (ofV (ZW (outK ss l n) n))).a8 (Zi Y (ofV (ZG (outK ss l n) n))).a0 (Zi Y (ofV (ZG (outK ss l n) n))).a1 (Zi Y (ofV (ZG (outK ss l n) n))).a2 (Zi Y (ofV (ZG (outK ss l n) n))).a3 (Zi Y (ofV (ZG (outK ss l n) n))).a4 (Zi Y (ofV (ZG (outK ss l n) n))).a5 (Zi Y (ofV (ZG (outK ss l n) n))).a6 [.i (Zi Y (ofV (ZG (outK ss l n) n))).a7, .i (Zi Y (ofV (ZG (outK ss l n) n))).a8, .i (IntKind.i64.wrap (c + (n : Nat))), .l (outK ss l n)]) := by
  have hr := Zlp hN hn hl X.a0 X.a1 X.a2 X.a3 X.a4 X.a5 X.a6 X.a7 X.a8 Y.a0 Y.a1 Y.a2 Y.a3 Y.a4 Y.a5 Y.a6 Y.a7 Y.a8 c
  rw [if_neg h0] at hr
  unfold pSn at hr
  simp only [ssK] at hr
  have ho := Zdj ss l n
  have hol := ZaI ss l n
  have h1 := Zea (outK ss l n) n h0 hn hol
  have h2 := ZdT (ZW (outK ss l n) n) n (Zcc _ _) hn (Zd9 ho n)
  have h3 := ZdT (ZG (outK ss l n) n) n (Zby _ _) hn (Zdk ho n)
  simp -implicitDefEqProofs only [g14, g14_1, asI_i, Zc, Zd, Zb, I4, I8, I16, Zh, Zj, Zv, Za]
  rw [show ((0 : Int)) = ((0 : Nat) : Int) from rfl, hr]
  simp -implicitDefEqProofs only [Z0, Zag, asI_i, Zc, Zd, Zb, I4, I8, I16, Zh, Zj, Zv, Za, h1, ZF, h2, Zk, Zcb, h3]
theorem Zmf {ss : List Sg} (hN : ss = []) {l : List Int} (hl : l.length = 0 * 2) (X Y : L9) (c : Int) : g14 (1, .n 0 :: .l l :: I16 X.a0 X.a1 X.a2 X.a3 X.a4 X.a5 X.a6 X.a7 X.a8 Y.a0 Y.a1 Y.a2 Y.a3 Y.a4 Y.a5 Y.a6 [.i Y.a7, .i Y.a8, .i c]) = some (1, I16 (Zi X z9).a0 (Zi X z9).a1 (Zi X z9).a2 (Zi X z9).a3 (Zi X z9).a4 (Zi X z9).a5 (Zi X z9).a6 (Zi X z9).a7 (Zi X z9).a8 (Zi Y z9).a0 (Zi Y z9).a1 (Zi Y z9).a2 (Zi Y z9).a3 (Zi Y z9).a4 (Zi Y z9).a5 (Zi Y z9).a6 [.i (Zi Y z9).a7, .i (Zi Y z9).a8, .i (IntKind.i64.wrap (c + (0 : Nat)))]) := by
  have hr := Zlp hN (n := 0) (by omega) hl X.a0 X.a1 X.a2 X.a3 X.a4 X.a5 X.a6 X.a7 X.a8 Y.a0 Y.a1 Y.a2 Y.a3 Y.a4 Y.a5 Y.a6 Y.a7 Y.a8 c
  rw [if_pos rfl] at hr
  unfold pSn at hr
  simp only [ssK] at hr
  simp -implicitDefEqProofs only [g14, g14_1, asI_i, Zc, Zd, Zb, I4, I8, I16, Zh, Zj, Zv, Za, ssK]
  rw [show ((0 : Int)) = ((0 : Nat) : Int) from rfl, hr]
  simp -implicitDefEqProofs only [Zk, ZF, Z0, asI_i, Zc, Zd, Zb, I4, I8, I16, Zh, Zj, Zv, Za, Zeb, ZiW, Zcb]
end Go.Proofs.Ytlbfafbhflblcaa
