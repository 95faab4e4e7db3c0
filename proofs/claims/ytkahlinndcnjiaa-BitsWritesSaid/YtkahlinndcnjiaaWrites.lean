/-
  BitsWrites: the law's loops and the law, of items with room. Conditions: none.
-/
import Derived.Test.YtkahlinndcnjiaaLaycX
namespace Go.Proofs.Ytkahlinndcnjiaa
open Go Go.Sx X
set_option maxRecDepth 100000
set_option linter.unusedVariables false
attribute [local simp] asI_i asB_b asL_l asN_n asS_s asE_nil altK_none altK_0 altK_1 altK_2 altK_3 optK_some optK_none Bool.cond_decide Bool.cond_not Int.toNat_natCast
set_option linter.unusedSimpArgs false
theorem altK_W7 {α : Type} (r : List Leaf) (k0 k1 k2 k3 k4 k5 k6 k7 : List Leaf → α) (ks : List (List Leaf → α)) (z : α) : altK (some (7, r)) (k0 :: k1 :: k2 :: k3 :: k4 :: k5 :: k6 :: k7 :: ks) z = k7 r := rfl
theorem altK_W8 {α : Type} (r : List Leaf) (k0 k1 k2 k3 k4 k5 k6 k7 k8 : List Leaf → α) (ks : List (List Leaf → α)) (z : α) : altK (some (8, r)) (k0 :: k1 :: k2 :: k3 :: k4 :: k5 :: k6 :: k7 :: k8 :: ks) z = k8 r := rfl
theorem altK_W9 {α : Type} (r : List Leaf) (k0 k1 k2 k3 k4 k5 k6 k7 k8 k9 : List Leaf → α) (ks : List (List Leaf → α)) (z : α) : altK (some (9, r)) (k0 :: k1 :: k2 :: k3 :: k4 :: k5 :: k6 :: k7 :: k8 :: k9 :: ks) z = k9 r := rfl
theorem altK_W10 {α : Type} (r : List Leaf) (k0 k1 k2 k3 k4 k5 k6 k7 k8 k9 k10 : List Leaf → α) (ks : List (List Leaf → α)) (z : α) : altK (some (10, r)) (k0 :: k1 :: k2 :: k3 :: k4 :: k5 :: k6 :: k7 :: k8 :: k9 :: k10 :: ks) z = k10 r := rfl
theorem altK_W11 {α : Type} (r : List Leaf) (k0 k1 k2 k3 k4 k5 k6 k7 k8 k9 k10 k11 : List Leaf → α) (ks : List (List Leaf → α)) (z : α) : altK (some (11, r)) (k0 :: k1 :: k2 :: k3 :: k4 :: k5 :: k6 :: k7 :: k8 :: k9 :: k10 :: k11 :: ks) z = k11 r := rfl
theorem altK_W12 {α : Type} (r : List Leaf) (k0 k1 k2 k3 k4 k5 k6 k7 k8 k9 k10 k11 k12 : List Leaf → α) (ks : List (List Leaf → α)) (z : α) : altK (some (12, r)) (k0 :: k1 :: k2 :: k3 :: k4 :: k5 :: k6 :: k7 :: k8 :: k9 :: k10 :: k11 :: k12 :: ks) z = k12 r := rfl
theorem altK_W13 {α : Type} (r : List Leaf) (k0 k1 k2 k3 k4 k5 k6 k7 k8 k9 k10 k11 k12 k13 : List Leaf → α) (ks : List (List Leaf → α)) (z : α) : altK (some (13, r)) (k0 :: k1 :: k2 :: k3 :: k4 :: k5 :: k6 :: k7 :: k8 :: k9 :: k10 :: k11 :: k12 :: k13 :: ks) z = k13 r := rfl
theorem b01_if {x : Int} (h : x = 0 ∨ x = 1) : (if x = 0 then (0 : Int) else 1) = x := by
  rcases h with rfl | rfl
  · rw [if_pos rfl]
  · rw [if_neg (by omega)]
theorem copy3 (m : Nat) (size : Int) (b : Bool) (k : Int) (q : Nat) (h : List Int) (wl : Nat) (n e : Int) (T by_ : List Int) (hT : B01 T) (hq : T.length = q) (h0 : 0 < q) (hq1 : q ≤ 1000) :
    L4_0 (3, [.n m, .i size, .b b, .i k, .n q, .i 0, .l h, .n wl, .i n, .i e, .l T, .l by_]) = some (6, [.n m, .i size, .n q, .b b, .i k, .l h, .n wl, .i n, .i e, .l T, .l by_, .l T]) := by
  have main := loopL_run (m := 14) (f := f4_0) (fun j => if j = 0 then (3, [.n m, .i size, .b b, .i k, .n q, .i 0, .l h, .n wl, .i n, .i e, .l T, .l by_]) else (6, [.n m, .i size, .n j, .b b, .i k, .n q, .i j, .l h, .n wl, .i n, .i e, .l T, .l by_, .l (T.take j)])) q (j := 6) (r := [.n m, .i size, .n q, .b b, .i k, .l h, .n wl, .i n, .i e, .l T, .l by_, .l T]) (fun j hj => ?_) ?_ (by omega)
  · unfold L4_0; exact main
  · simp only [Nat.succ_ne_zero, if_false]
    refine ⟨?_, by show 6 < 14; omega⟩
    have hx : T[j]? = some (T.getD j 0) := get_some (by omega)
    have hb := b01_if (b01_get hT j)
    have et : T.take (j + 1) = T.take j ++ [T.getD j 0] := take_snoc hx
    have w2 : IntKind.i64.wrap ((j : Int) + 1) = ((j + 1 : Nat) : Int) := wrap_nat (n := j + 1) (by omega)
    rw [et]
    generalize T.getD j 0 = x at *
    by_cases c : j = 0
    · subst c
      rw [if_pos rfl, List.take_zero, List.nil_append]
      have w3 : IntKind.i64.wrap (0 + 1) = ((0 + 1 : Nat) : Int) := rfl
      have t0 : Int.toNat 0 = 0 := rfl
      simp -implicitDefEqProofs only [f4_0, f4_0_3, asI_i, asN_n, asL_l, asB_b, asE_nil, Bool.cond_decide, Bool.cond_not, if_pos (show (0 : Int) < q by omega), if_pos (show (0 : Int) ≤ 0 ∧ (0 : Int) < q by omega), t0, hx, optK_some, hb, w3, Nat.zero_add]
    · rw [if_neg c]
      have hl : (T.take j).length = j := by rw [List.length_take]; omega
      simp -implicitDefEqProofs only [f4_0, f4_0_6, asI_i, asN_n, asL_l, asB_b, asE_nil, Bool.cond_decide, Bool.cond_not, if_pos (show (j : Int) < q by omega), if_pos (show (0 : Int) ≤ j ∧ (j : Int) < q by omega), Int.toNat_natCast, hx, optK_some, hb, w2, if_pos (show (j + 1) * 1 ≤ 70368744177664 by omega), if_pos (show (T.take j).length = j * 1 by omega)]
  · have ht : T.take q = T := List.take_of_length_le (by omega)
    rw [if_neg (by omega), ht]
    simp -implicitDefEqProofs only [f4_0, f4_0_6, asI_i, asN_n, asL_l, asB_b, asE_nil, Bool.cond_decide, Bool.cond_not, if_neg (Int.lt_irrefl _)]
theorem copy13 (m : Nat) (size : Int) (b : Bool) (k : Int) (q : Nat) (h : List Int) (wl : Nat) (n e : Int) (A T by_ : List Int) (hT : B01 T) (hq : T.length = q) (hq1 : q ≤ 1000) (hA : A.length ≤ 90000) :
    L4_0 (13, [.n m, .i size, .n A.length, .b b, .i k, .n q, .i 0, .l h, .n wl, .i n, .i e, .l by_, .l A, .l T]) = some (13, [.n m, .i size, .n (A.length + q), .b b, .i k, .l h, .n wl, .i n, .i e, .l by_, .l (A ++ T), .l T]) := by
  have main := loopL_run (m := 14) (f := f4_0) (fun j => (13, [.n m, .i size, .n (A.length + j), .b b, .i k, .n q, .i j, .l h, .n wl, .i n, .i e, .l by_, .l (A ++ T.take j), .l T])) q (j := 13) (r := [.n m, .i size, .n (A.length + q), .b b, .i k, .l h, .n wl, .i n, .i e, .l by_, .l (A ++ T), .l T]) (fun j hj => ⟨?_, by show 13 < 14; omega⟩) ?_ (by omega)
  · rw [List.take_zero, List.append_nil] at main
    unfold L4_0; exact main
  · have hx : T[j]? = some (T.getD j 0) := get_some (by omega)
    have hb := b01_if (b01_get hT j)
    have et : T.take (j + 1) = T.take j ++ [T.getD j 0] := take_snoc hx
    have w2 : IntKind.i64.wrap ((j : Int) + 1) = ((j + 1 : Nat) : Int) := wrap_nat (n := j + 1) (by omega)
    have hl : (A ++ T.take j).length = A.length + j := by rw [List.length_append, List.length_take]; omega
    rw [et, ← List.append_assoc, ← Nat.add_assoc]
    generalize T.getD j 0 = x at *
    generalize A ++ T.take j = W at *
    simp -implicitDefEqProofs only [f4_0, f4_0_13, asI_i, asN_n, asL_l, asB_b, asE_nil, Bool.cond_decide, Bool.cond_not, if_pos (show (j : Int) < q by omega), if_pos (show (0 : Int) ≤ j ∧ (j : Int) < q by omega), Int.toNat_natCast, hx, optK_some, hb, w2, if_pos (show (A.length + j + 1) * 1 ≤ 70368744177664 by omega), if_pos (show W.length = (A.length + j) * 1 by omega)]
  · have ht : T.take q = T := List.take_of_length_le (by omega)
    rw [ht]
    simp -implicitDefEqProofs only [f4_0, f4_0_13, asI_i, asN_n, asL_l, asB_b, asE_nil, Bool.cond_decide, Bool.cond_not, if_neg (Int.lt_irrefl _)]
theorem none0 (m : Nat) (size k : Int) (b : Bool) (h : List Int) (n e : Int) : L4_0 (0, [.n m, .i size, .b b, .i k, .i 0, .l h, .i n, .i e]) = some (0, [.n m, .i size, .b b, .i k, .l h, .i n, .i e]) :=
  loopL_last (m := 14) (f := f4_0) (j := 0) (by simp -implicitDefEqProofs only [f4_0, f4_0_0, asI_i, asN_n, asL_l, asB_b, asE_nil, Bool.cond_decide, Bool.cond_not, if_neg (Int.lt_irrefl _)])
theorem none12 (m : Nat) (size : Int) (a : Nat) (b : Bool) (k : Int) (h : List Int) (wl : Nat) (n e : Int) (by_ A : List Int) : L4_0 (12, [.n m, .i size, .n a, .b b, .i k, .i 0, .l h, .n wl, .i n, .i e, .l by_, .l A]) = some (12, [.n m, .i size, .n a, .b b, .i k, .l h, .n wl, .i n, .i e, .l by_, .l A]) :=
  loopL_last (m := 14) (f := f4_0) (j := 12) (by simp -implicitDefEqProofs only [f4_0, f4_0_12, asI_i, asN_n, asL_l, asB_b, asE_nil, Bool.cond_decide, Bool.cond_not, if_neg (Int.lt_irrefl _)])
/-- What an item makes of the bits so far. -/
def stp (s : List Int × Bool) (sg : Bool) (V K : Int) : List Int × Bool := if s.2 = true ∧ okI sg V K = true then (s.1 ++ topL (vlI V K) K.toNat K.toNat, true) else (s.1, false)
def eB (b : Bool) : Int := if b = true then 0 else 5
theorem wlay_stp (A : List Int) (ok : Bool) (sg : Bool) (V K : Int) : wlay A (eB ok) sg V K = ((stp (A, ok) sg V K).1, eB (stp (A, ok) sg V K).2) := by
  cases ok with
  | true =>
    by_cases c : okI sg V K = true
    · have e : stp (A, true) sg V K = (A ++ topL (vlI V K) K.toNat K.toNat, true) := if_pos ⟨rfl, c⟩
      rw [e]
      unfold wlay
      rw [if_neg (by decide), if_pos c]; rfl
    · have e : stp (A, true) sg V K = (A, false) := if_neg (fun h => c h.2)
      rw [e]
      unfold wlay
      rw [if_neg (by decide), if_neg c]; rfl
  | false =>
    have e : stp (A, false) sg V K = (A, false) := if_neg (fun h => Bool.false_ne_true h.1)
    rw [e]
    unfold wlay
    rw [if_pos (by decide)]
theorem stp_01 {A : List Int} (hA : B01 A) (ok sg : Bool) (V K : Int) : B01 (stp (A, ok) sg V K).1 := by
  unfold stp
  split
  · exact b01_app hA (topL_01 _ _ _)
  · exact hA
theorem stp_len {A : List Int} {n : Nat} (hA : A.length ≤ 57 * n) (ok sg : Bool) (V K : Int) : (stp (A, ok) sg V K).1.length ≤ 57 * (n + 1) := by
  unfold stp
  split
  · rename_i h
    have := okI_K h.2
    show (A ++ _).length ≤ _
    rw [List.length_append, topL_len]; omega
  · show A.length ≤ _; omega
/-- The state at the law's loop over items. -/
def SS (m : Nat) (size : Int) (h : List Int) (k : Nat) (s : List Int × Bool) : Nat × List Leaf :=
  if s.1.length = 0 then (0, [.n m, .i size, .b s.2, .i k, .l h, .i 0, .i (eB s.2)])
  else (3, [.n m, .i size, .n s.1.length, .b s.2, .i k, .l h, .n ((s.1.length + 7) / 8), .i s.1.length, .i (eB s.2), .l (packL s.1 ((s.1.length + 7) / 8)), .l s.1])
set_option maxHeartbeats 8000000 in
theorem wround (m : Nat) (size : Int) (h : List Int) (k : Nat) (hk : k < m) (h40 : k < 40) (hm : m * 3 ≤ h.length) (A : List Int) (ok : Bool) (hA : B01 A) (hl : A.length ≤ 90000) (sg : Bool) (hs : (!decide (h.getD (k * 3) 0 = 0)) = sg)
    (hV : -9223372036854775808 ≤ h.getD (k * 3 + 1) 0 ∧ h.getD (k * 3 + 1) 0 ≤ 9223372036854775807) :
    f4_1 (SS m size h k (A, ok)) = some (SS m size h (k + 1) (stp (A, ok) sg (h.getD (k * 3 + 1) 0) (h.getD (k * 3 + 1 + 1) 0))) := by
  have c0 : h[k * 3]? = some (h.getD (k * 3) 0) := get_some (by omega)
  have c1 : h[k * 3 + 1]? = some (h.getD (k * 3 + 1) 0) := get_some (by omega)
  have c2 : h[k * 3 + 1 + 1]? = some (h.getD (k * 3 + 1 + 1) 0) := get_some (by omega)
  have hle : k * 3 + 3 ≤ h.length := by omega
  have hmod : k * 3 % 3 = 0 := Nat.mul_mod_left k 3
  have w2 : IntKind.i64.wrap ((k : Int) + 1) = ((k + 1 : Nat) : Int) := wrap_nat (n := k + 1) (by omega)
  generalize h.getD (k * 3) 0 = x at *
  generalize h.getD (k * 3 + 1) 0 = V at *
  generalize h.getD (k * 3 + 1 + 1) 0 = K at *
  have hsg : (!decide (x = 0)) = sg := hs
  clear hs
  have hlaid := laid_ok sg V K hV.1 hV.2
  by_cases a0 : A.length = 0
  · obtain rfl := List.length_eq_zero_iff.1 a0
    have hlay := lay0 sg (eB ok) V K hV.1 hV.2
    rw [wlay_stp] at hlay
    have e0 : SS m size h k ([], ok) = (0, [.n m, .i size, .b ok, .i k, .l h, .i 0, .i (eB ok)]) := if_pos rfl
    rw [e0]
    by_cases c : okI sg V K = true
    · have hK := okI_K c
      rw [if_neg (by rw [c]; decide)] at hlaid
      by_cases z : K = 0
      · subst z
        rw [if_pos rfl] at hlaid
        have es : stp ([], ok) sg V 0 = ([], ok) := by
          unfold stp
          cases ok with
          | true => rw [if_pos ⟨rfl, c⟩]; rfl
          | false => rw [if_neg (fun h => Bool.false_ne_true h.1)]
        rw [es] at hlay ⊢
        rw [if_pos (show ([] : List Int).length = 0 from rfl)] at hlay
        rw [show SS m size h (k + 1) ([], ok) = (0, [.n m, .i size, .b ok, .i (k + 1 : Nat), .l h, .i 0, .i (eB ok)]) from if_pos rfl]
        cases ok with
        | true => simp -implicitDefEqProofs only [f4_1, f4_1_0, asI_i, asN_n, asL_l, asB_b, asE_nil, Bool.cond_decide, Bool.cond_not, if_pos (show (k : Int) < m by omega), if_pos (show (k : Int) < 40 by omega), if_pos (show (0 : Int) ≤ k ∧ (k : Int) < m by omega), Int.toNat_natCast, if_pos hle, if_pos hmod, c0, c1, c2, optK_some, hsg, altK_0, altK_1, altK_2, altK_3, altK_4, altK_5, altK_6, altK_W7, altK_W8, altK_W9, altK_W10, altK_W11, altK_W12, altK_W13, w2, cond_true, cond_false, hlaid, hlay, none0]
        | false => simp -implicitDefEqProofs only [f4_1, f4_1_0, asI_i, asN_n, asL_l, asB_b, asE_nil, Bool.cond_decide, Bool.cond_not, if_pos (show (k : Int) < m by omega), if_pos (show (k : Int) < 40 by omega), if_pos (show (0 : Int) ≤ k ∧ (k : Int) < m by omega), Int.toNat_natCast, if_pos hle, if_pos hmod, c0, c1, c2, optK_some, hsg, altK_0, altK_1, altK_2, altK_3, altK_4, altK_5, altK_6, altK_W7, altK_W8, altK_W9, altK_W10, altK_W11, altK_W12, altK_W13, w2, cond_true, cond_false, hlaid, hlay]
      · rw [if_neg z] at hlaid
        cases ok with
        | false =>
          have es : stp ([], false) sg V K = ([], false) := by unfold stp; rw [if_neg (fun h => Bool.false_ne_true h.1)]
          rw [es] at hlay ⊢
          rw [if_pos (show ([] : List Int).length = 0 from rfl)] at hlay
          rw [show SS m size h (k + 1) ([], false) = (0, [.n m, .i size, .b false, .i (k + 1 : Nat), .l h, .i 0, .i (eB false)]) from if_pos rfl]
          simp -implicitDefEqProofs only [f4_1, f4_1_0, asI_i, asN_n, asL_l, asB_b, asE_nil, Bool.cond_decide, Bool.cond_not, if_pos (show (k : Int) < m by omega), if_pos (show (k : Int) < 40 by omega), if_pos (show (0 : Int) ≤ k ∧ (k : Int) < m by omega), Int.toNat_natCast, if_pos hle, if_pos hmod, c0, c1, c2, optK_some, hsg, altK_0, altK_1, altK_2, altK_3, altK_4, altK_5, altK_6, altK_W7, altK_W8, altK_W9, altK_W10, altK_W11, altK_W12, altK_W13, w2, cond_true, cond_false, hlaid, hlay]
        | true =>
          have es : stp ([], true) sg V K = (topL (vlI V K) K.toNat K.toNat, true) := by unfold stp; rw [if_pos ⟨rfl, c⟩]; rfl
          rw [es] at hlay ⊢
          have hT := topL_01 (vlI V K) K.toNat K.toNat
          have hTl := topL_len (vlI V K) K.toNat K.toNat
          generalize topL (vlI V K) K.toNat K.toNat = T at *
          have hne : ¬ T.length = 0 := by omega
          rw [if_neg hne] at hlay
          unfold WL at hlay
          have e1 : SS m size h (k + 1) (T, true) = (3, [.n m, .i size, .n T.length, .b true, .i (k + 1 : Nat), .l h, .n ((T.length + 7) / 8), .i T.length, .i (eB true), .l (packL T ((T.length + 7) / 8)), .l T]) := if_neg hne
          rw [e1]
          rw [← hTl] at hlaid
          have hc := copy3 m size true k T.length h ((T.length + 7) / 8) T.length (eB true) T (packL T ((T.length + 7) / 8)) hT rfl (by omega) (by omega)
          generalize packL T ((T.length + 7) / 8) = by_ at *
          simp -implicitDefEqProofs only [f4_1, f4_1_0, asI_i, asN_n, asL_l, asB_b, asE_nil, Bool.cond_decide, Bool.cond_not, if_pos (show (k : Int) < m by omega), if_pos (show (k : Int) < 40 by omega), if_pos (show (0 : Int) ≤ k ∧ (k : Int) < m by omega), Int.toNat_natCast, if_pos hle, if_pos hmod, c0, c1, c2, optK_some, hsg, altK_0, altK_1, altK_2, altK_3, altK_4, altK_5, altK_6, altK_W7, altK_W8, altK_W9, altK_W10, altK_W11, altK_W12, altK_W13, w2, cond_true, cond_false, hlaid, hlay, hc]
    · have c' : okI sg V K = false := by simpa using c
      rw [if_pos c'] at hlaid
      have es : stp ([], ok) sg V K = ([], false) := by unfold stp; rw [if_neg (fun h => c h.2)]
      rw [es] at hlay ⊢
      rw [if_pos (show ([] : List Int).length = 0 from rfl)] at hlay
      rw [show SS m size h (k + 1) ([], false) = (0, [.n m, .i size, .b false, .i (k + 1 : Nat), .l h, .i 0, .i (eB false)]) from if_pos rfl]
      cases ok with
      | true => simp -implicitDefEqProofs only [f4_1, f4_1_0, asI_i, asN_n, asL_l, asB_b, asE_nil, Bool.cond_decide, Bool.cond_not, if_pos (show (k : Int) < m by omega), if_pos (show (k : Int) < 40 by omega), if_pos (show (0 : Int) ≤ k ∧ (k : Int) < m by omega), Int.toNat_natCast, if_pos hle, if_pos hmod, c0, c1, c2, optK_some, hsg, altK_0, altK_1, altK_2, altK_3, altK_4, altK_5, altK_6, altK_W7, altK_W8, altK_W9, altK_W10, altK_W11, altK_W12, altK_W13, w2, cond_true, cond_false, hlaid, hlay]
      | false => simp -implicitDefEqProofs only [f4_1, f4_1_0, asI_i, asN_n, asL_l, asB_b, asE_nil, Bool.cond_decide, Bool.cond_not, if_pos (show (k : Int) < m by omega), if_pos (show (k : Int) < 40 by omega), if_pos (show (0 : Int) ≤ k ∧ (k : Int) < m by omega), Int.toNat_natCast, if_pos hle, if_pos hmod, c0, c1, c2, optK_some, hsg, altK_0, altK_1, altK_2, altK_3, altK_4, altK_5, altK_6, altK_W7, altK_W8, altK_W9, altK_W10, altK_W11, altK_W12, altK_W13, w2, cond_true, cond_false, hlaid, hlay]
  · obtain ⟨j, hj, hlay⟩ := lay1 hA hl sg (eB ok) V K hV.1 hV.2
    rw [wlay_stp] at hlay
    have e0 : SS m size h k (A, ok) = (3, [.n m, .i size, .n A.length, .b ok, .i k, .l h, .n ((A.length + 7) / 8), .i A.length, .i (eB ok), .l (packL A ((A.length + 7) / 8)), .l A]) := if_neg a0
    rw [e0]
    unfold WL at hlay
    by_cases c : okI sg V K = true
    · have hK := okI_K c
      rw [if_neg (by rw [c]; decide)] at hlaid
      by_cases z : K = 0
      · subst z
        rw [if_pos rfl] at hlaid
        have es : stp (A, ok) sg V 0 = (A, ok) := by
          unfold stp
          cases ok with
          | true => rw [if_pos ⟨rfl, c⟩]; show (A ++ [], true) = _; rw [List.append_nil]
          | false => rw [if_neg (fun h => Bool.false_ne_true h.1)]
        rw [es] at hlay ⊢
        have e1 : SS m size h (k + 1) (A, ok) = (3, [.n m, .i size, .n A.length, .b ok, .i (k + 1 : Nat), .l h, .n ((A.length + 7) / 8), .i A.length, .i (eB ok), .l (packL A ((A.length + 7) / 8)), .l A]) := if_neg a0
        rw [e1]
        simp only at hlay
        generalize packL A ((A.length + 7) / 8) = by_ at *
        rcases hj with rfl | rfl
        · cases ok with
          | true => simp -implicitDefEqProofs only [f4_1, f4_1_3, asI_i, asN_n, asL_l, asB_b, asE_nil, Bool.cond_decide, Bool.cond_not, if_pos (show (k : Int) < m by omega), if_pos (show (k : Int) < 40 by omega), if_pos (show (0 : Int) ≤ k ∧ (k : Int) < m by omega), Int.toNat_natCast, if_pos hle, if_pos hmod, c0, c1, c2, optK_some, hsg, altK_0, altK_1, altK_2, altK_3, altK_4, altK_5, altK_6, altK_W7, altK_W8, altK_W9, altK_W10, altK_W11, altK_W12, altK_W13, w2, cond_true, cond_false, hlaid, hlay, none12]
          | false => simp -implicitDefEqProofs only [f4_1, f4_1_3, asI_i, asN_n, asL_l, asB_b, asE_nil, Bool.cond_decide, Bool.cond_not, if_pos (show (k : Int) < m by omega), if_pos (show (k : Int) < 40 by omega), if_pos (show (0 : Int) ≤ k ∧ (k : Int) < m by omega), Int.toNat_natCast, if_pos hle, if_pos hmod, c0, c1, c2, optK_some, hsg, altK_0, altK_1, altK_2, altK_3, altK_4, altK_5, altK_6, altK_W7, altK_W8, altK_W9, altK_W10, altK_W11, altK_W12, altK_W13, w2, cond_true, cond_false, hlaid, hlay]
        · cases ok with
          | true => simp -implicitDefEqProofs only [f4_1, f4_1_3, asI_i, asN_n, asL_l, asB_b, asE_nil, Bool.cond_decide, Bool.cond_not, if_pos (show (k : Int) < m by omega), if_pos (show (k : Int) < 40 by omega), if_pos (show (0 : Int) ≤ k ∧ (k : Int) < m by omega), Int.toNat_natCast, if_pos hle, if_pos hmod, c0, c1, c2, optK_some, hsg, altK_0, altK_1, altK_2, altK_3, altK_4, altK_5, altK_6, altK_W7, altK_W8, altK_W9, altK_W10, altK_W11, altK_W12, altK_W13, w2, cond_true, cond_false, hlaid, hlay, none12]
          | false => simp -implicitDefEqProofs only [f4_1, f4_1_3, asI_i, asN_n, asL_l, asB_b, asE_nil, Bool.cond_decide, Bool.cond_not, if_pos (show (k : Int) < m by omega), if_pos (show (k : Int) < 40 by omega), if_pos (show (0 : Int) ≤ k ∧ (k : Int) < m by omega), Int.toNat_natCast, if_pos hle, if_pos hmod, c0, c1, c2, optK_some, hsg, altK_0, altK_1, altK_2, altK_3, altK_4, altK_5, altK_6, altK_W7, altK_W8, altK_W9, altK_W10, altK_W11, altK_W12, altK_W13, w2, cond_true, cond_false, hlaid, hlay]
      · rw [if_neg z] at hlaid
        cases ok with
        | false =>
          have es : stp (A, false) sg V K = (A, false) := by unfold stp; rw [if_neg (fun h => Bool.false_ne_true h.1)]
          rw [es] at hlay ⊢
          have e1 : SS m size h (k + 1) (A, false) = (3, [.n m, .i size, .n A.length, .b false, .i (k + 1 : Nat), .l h, .n ((A.length + 7) / 8), .i A.length, .i (eB false), .l (packL A ((A.length + 7) / 8)), .l A]) := if_neg a0
          rw [e1]
          simp only at hlay
          generalize packL A ((A.length + 7) / 8) = by_ at *
          rcases hj with rfl | rfl
          · simp -implicitDefEqProofs only [f4_1, f4_1_3, asI_i, asN_n, asL_l, asB_b, asE_nil, Bool.cond_decide, Bool.cond_not, if_pos (show (k : Int) < m by omega), if_pos (show (k : Int) < 40 by omega), if_pos (show (0 : Int) ≤ k ∧ (k : Int) < m by omega), Int.toNat_natCast, if_pos hle, if_pos hmod, c0, c1, c2, optK_some, hsg, altK_0, altK_1, altK_2, altK_3, altK_4, altK_5, altK_6, altK_W7, altK_W8, altK_W9, altK_W10, altK_W11, altK_W12, altK_W13, w2, cond_true, cond_false, hlaid, hlay]
          · simp -implicitDefEqProofs only [f4_1, f4_1_3, asI_i, asN_n, asL_l, asB_b, asE_nil, Bool.cond_decide, Bool.cond_not, if_pos (show (k : Int) < m by omega), if_pos (show (k : Int) < 40 by omega), if_pos (show (0 : Int) ≤ k ∧ (k : Int) < m by omega), Int.toNat_natCast, if_pos hle, if_pos hmod, c0, c1, c2, optK_some, hsg, altK_0, altK_1, altK_2, altK_3, altK_4, altK_5, altK_6, altK_W7, altK_W8, altK_W9, altK_W10, altK_W11, altK_W12, altK_W13, w2, cond_true, cond_false, hlaid, hlay]
        | true =>
          have es : stp (A, true) sg V K = (A ++ topL (vlI V K) K.toNat K.toNat, true) := by unfold stp; rw [if_pos ⟨rfl, c⟩]
          rw [es] at hlay ⊢
          have hT := topL_01 (vlI V K) K.toNat K.toNat
          have hTl := topL_len (vlI V K) K.toNat K.toNat
          generalize topL (vlI V K) K.toNat K.toNat = T at *
          have hne : ¬ (A ++ T).length = 0 := by rw [List.length_append]; omega
          have e1 : SS m size h (k + 1) (A ++ T, true) = (3, [.n m, .i size, .n (A ++ T).length, .b true, .i (k + 1 : Nat), .l h, .n (((A ++ T).length + 7) / 8), .i (A ++ T).length, .i (eB true), .l (packL (A ++ T) (((A ++ T).length + 7) / 8)), .l (A ++ T)]) := if_neg hne
          rw [e1]
          rw [← hTl] at hlaid
          have hc := copy13 m size true k T.length h (((A ++ T).length + 7) / 8) (A ++ T).length (eB true) A T (packL (A ++ T) (((A ++ T).length + 7) / 8)) hT rfl (by omega) hl
          rw [← List.length_append] at hc
          simp only at hlay
          generalize packL (A ++ T) (((A ++ T).length + 7) / 8) = by_ at *
          generalize packL A ((A.length + 7) / 8) = by0 at *
          rcases hj with rfl | rfl
          · simp -implicitDefEqProofs only [f4_1, f4_1_3, asI_i, asN_n, asL_l, asB_b, asE_nil, Bool.cond_decide, Bool.cond_not, if_pos (show (k : Int) < m by omega), if_pos (show (k : Int) < 40 by omega), if_pos (show (0 : Int) ≤ k ∧ (k : Int) < m by omega), Int.toNat_natCast, if_pos hle, if_pos hmod, c0, c1, c2, optK_some, hsg, altK_0, altK_1, altK_2, altK_3, altK_4, altK_5, altK_6, altK_W7, altK_W8, altK_W9, altK_W10, altK_W11, altK_W12, altK_W13, w2, cond_true, cond_false, hlaid, hlay, hc]
          · simp -implicitDefEqProofs only [f4_1, f4_1_3, asI_i, asN_n, asL_l, asB_b, asE_nil, Bool.cond_decide, Bool.cond_not, if_pos (show (k : Int) < m by omega), if_pos (show (k : Int) < 40 by omega), if_pos (show (0 : Int) ≤ k ∧ (k : Int) < m by omega), Int.toNat_natCast, if_pos hle, if_pos hmod, c0, c1, c2, optK_some, hsg, altK_0, altK_1, altK_2, altK_3, altK_4, altK_5, altK_6, altK_W7, altK_W8, altK_W9, altK_W10, altK_W11, altK_W12, altK_W13, w2, cond_true, cond_false, hlaid, hlay, hc]
    · have c' : okI sg V K = false := by simpa using c
      rw [if_pos c'] at hlaid
      have es : stp (A, ok) sg V K = (A, false) := by unfold stp; rw [if_neg (fun h => c h.2)]
      rw [es] at hlay ⊢
      have e1 : SS m size h (k + 1) (A, false) = (3, [.n m, .i size, .n A.length, .b false, .i (k + 1 : Nat), .l h, .n ((A.length + 7) / 8), .i A.length, .i (eB false), .l (packL A ((A.length + 7) / 8)), .l A]) := if_neg a0
      rw [e1]
      simp only at hlay
      generalize packL A ((A.length + 7) / 8) = by_ at *
      rcases hj with rfl | rfl
      · cases ok with
        | true => simp -implicitDefEqProofs only [f4_1, f4_1_3, asI_i, asN_n, asL_l, asB_b, asE_nil, Bool.cond_decide, Bool.cond_not, if_pos (show (k : Int) < m by omega), if_pos (show (k : Int) < 40 by omega), if_pos (show (0 : Int) ≤ k ∧ (k : Int) < m by omega), Int.toNat_natCast, if_pos hle, if_pos hmod, c0, c1, c2, optK_some, hsg, altK_0, altK_1, altK_2, altK_3, altK_4, altK_5, altK_6, altK_W7, altK_W8, altK_W9, altK_W10, altK_W11, altK_W12, altK_W13, w2, cond_true, cond_false, hlaid, hlay]
        | false => simp -implicitDefEqProofs only [f4_1, f4_1_3, asI_i, asN_n, asL_l, asB_b, asE_nil, Bool.cond_decide, Bool.cond_not, if_pos (show (k : Int) < m by omega), if_pos (show (k : Int) < 40 by omega), if_pos (show (0 : Int) ≤ k ∧ (k : Int) < m by omega), Int.toNat_natCast, if_pos hle, if_pos hmod, c0, c1, c2, optK_some, hsg, altK_0, altK_1, altK_2, altK_3, altK_4, altK_5, altK_6, altK_W7, altK_W8, altK_W9, altK_W10, altK_W11, altK_W12, altK_W13, w2, cond_true, cond_false, hlaid, hlay]
      · cases ok with
        | true => simp -implicitDefEqProofs only [f4_1, f4_1_3, asI_i, asN_n, asL_l, asB_b, asE_nil, Bool.cond_decide, Bool.cond_not, if_pos (show (k : Int) < m by omega), if_pos (show (k : Int) < 40 by omega), if_pos (show (0 : Int) ≤ k ∧ (k : Int) < m by omega), Int.toNat_natCast, if_pos hle, if_pos hmod, c0, c1, c2, optK_some, hsg, altK_0, altK_1, altK_2, altK_3, altK_4, altK_5, altK_6, altK_W7, altK_W8, altK_W9, altK_W10, altK_W11, altK_W12, altK_W13, w2, cond_true, cond_false, hlaid, hlay]
        | false => simp -implicitDefEqProofs only [f4_1, f4_1_3, asI_i, asN_n, asL_l, asB_b, asE_nil, Bool.cond_decide, Bool.cond_not, if_pos (show (k : Int) < m by omega), if_pos (show (k : Int) < 40 by omega), if_pos (show (0 : Int) ≤ k ∧ (k : Int) < m by omega), Int.toNat_natCast, if_pos hle, if_pos hmod, c0, c1, c2, optK_some, hsg, altK_0, altK_1, altK_2, altK_3, altK_4, altK_5, altK_6, altK_W7, altK_W8, altK_W9, altK_W10, altK_W11, altK_W12, altK_W13, w2, cond_true, cond_false, hlaid, hlay]
def sgK (h : List Int) (k : Nat) : Bool := !decide (h.getD (k * 3) 0 = 0)
def stK (h : List Int) : Nat → List Int × Bool
  | 0 => ([], true)
  | k + 1 => stp (stK h k) (sgK h k) (h.getD (k * 3 + 1) 0) (h.getD (k * 3 + 1 + 1) 0)
theorem stK_01 (h : List Int) : ∀ k, B01 (stK h k).1
  | 0 => fun x hx => by cases hx
  | k + 1 => stp_01 (stK_01 h k) (stK h k).2 _ _ _
theorem stK_len (h : List Int) : ∀ k, (stK h k).1.length ≤ 57 * k
  | 0 => by show 0 ≤ _; omega
  | k + 1 => stp_len (stK_len h k) (stK h k).2 _ _ _
def endL (m : Nat) (size : Int) (h : List Int) (s : List Int × Bool) : Nat × List Leaf :=
  if s.1.length = 0 then (0, [.i size, .b s.2, .l h, .i 0, .i (eB s.2)])
  else (3, [.i size, .n s.1.length, .b s.2, .l h, .n ((s.1.length + 7) / 8), .i s.1.length, .i (eB s.2), .l (packL s.1 ((s.1.length + 7) / 8)), .l s.1])
theorem wloop (m : Nat) (size : Int) (h : List Int) (hm : m * 3 ≤ h.length) (hV : ∀ k, k < m → -9223372036854775808 ≤ h.getD (k * 3 + 1) 0 ∧ h.getD (k * 3 + 1) 0 ≤ 9223372036854775807) :
    L4_1 (0, [.n m, .i size, .b true, .i 0, .l h, .i 0, .i 0]) = some (endL m size h (stK h (min m 40))) := by
  have hd : ∀ (α : Type) (x y : α), (if ((min m 40 : Nat) : Int) < m then (if ((min m 40 : Nat) : Int) < 40 then x else y) else y) = y := fun α x y => by
    by_cases c : ((min m 40 : Nat) : Int) < m
    · rw [if_pos c, if_neg (by omega)]
    · rw [if_neg c]
  have main := loopL_run (m := 4) (f := f4_1) (fun k => SS m size h k (stK h k)) (min m 40) (j := (endL m size h (stK h (min m 40))).1) (r := (endL m size h (stK h (min m 40))).2) (fun k hk => ⟨?_, ?_⟩) ?_ (by omega)
  · unfold L4_1; exact main
  · have hlen := stK_len h k
    exact wround m size h k (by omega) (by omega) hm (stK h k).1 (stK h k).2 (stK_01 h k) (by omega) (sgK h k) rfl (hV k (by omega))
  · show (SS m size h (k + 1) (stK h (k + 1))).1 < 4
    unfold SS
    split
    · show 0 < 4; omega
    · show 3 < 4; omega
  · show f4_1 (SS m size h (min m 40) (stK h (min m 40))) = _
    generalize stK h (min m 40) = s
    obtain ⟨A, ok⟩ := s
    by_cases c : A.length = 0
    · have e0 : SS m size h (min m 40) (A, ok) = (0, [.n m, .i size, .b ok, .i (min m 40 : Nat), .l h, .i 0, .i (eB ok)]) := if_pos c
      have e1 : endL m size h (A, ok) = (0, [.i size, .b ok, .l h, .i 0, .i (eB ok)]) := if_pos c
      rw [e0, e1]
      simp -implicitDefEqProofs only [f4_1, f4_1_0, asI_i, asN_n, asL_l, asB_b, asE_nil, Bool.cond_decide, Bool.cond_not, hd]
    · have e0 : SS m size h (min m 40) (A, ok) = (3, [.n m, .i size, .n A.length, .b ok, .i (min m 40 : Nat), .l h, .n ((A.length + 7) / 8), .i A.length, .i (eB ok), .l (packL A ((A.length + 7) / 8)), .l A]) := if_neg c
      have e1 : endL m size h (A, ok) = (3, [.i size, .n A.length, .b ok, .l h, .n ((A.length + 7) / 8), .i A.length, .i (eB ok), .l (packL A ((A.length + 7) / 8)), .l A]) := if_neg c
      rw [e0, e1]
      simp -implicitDefEqProofs only [f4_1, f4_1_3, asI_i, asN_n, asL_l, asB_b, asE_nil, Bool.cond_decide, Bool.cond_not, hd]
theorem len0 (n e : Int) : g14 (0, [.i n, .i e]) = some (0, [.i n, .i n, .i e]) := by
  simp -implicitDefEqProofs only [g14, g14_0, asI_i, asN_n, asL_l, asB_b, asE_nil, Bool.cond_decide, Bool.cond_not]
theorem len1 (w : Nat) (n e : Int) (b : List Int) : g14 (1, [.n w, .i n, .i e, .l b]) = some (1, [.i n, .n w, .i n, .i e, .l b]) := by
  simp -implicitDefEqProofs only [g14, g14_1, asI_i, asN_n, asL_l, asB_b, asE_nil, Bool.cond_decide, Bool.cond_not]
set_option maxHeartbeats 8000000 in
theorem law_W (m : Nat) (size : Int) (h : List Int) (hm : m * 3 ≤ h.length) (hV : ∀ k, k < m → -9223372036854775808 ≤ h.getD (k * 3 + 1) 0 ∧ h.getD (k * 3 + 1) 0 ≤ 9223372036854775807) :
    g4 (0, [.n m, .i size, .l h]) = some (0, [.b true, .l h]) := by
  have hw := wloop m size h hm hV
  have h01 := stK_01 h (min m 40)
  have hlen := stK_len h (min m 40)
  have hne : ∀ x : Int, (x ≠ x) = False := fun x => eq_false (fun h => h rfl)
  generalize stK h (min m 40) = s at *
  obtain ⟨A, ok⟩ := s
  simp only at h01 hlen
  by_cases c : A.length = 0
  · have e1 : endL m size h (A, ok) = (0, [.i size, .b ok, .l h, .i 0, .i (eB ok)]) := if_pos c
    rw [e1] at hw
    by_cases big : 1000 < size
    · have hb := byts0 1000 (eB ok) (by omega)
      cases ok with
      | false =>
        rw [if_pos (by decide)] at hb
        simp -implicitDefEqProofs only [g4, g4_0, asI_i, asN_n, asL_l, asB_b, asE_nil, Bool.cond_decide, Bool.cond_not, altK_0, altK_1, altK_2, altK_3, altK_4, altK_5, altK_6, altK_W7, altK_W8, altK_W9, altK_W10, altK_W11, altK_W12, altK_W13, if_true, if_false, cond_true, cond_false, awakeL_ok, hne, len0, len1, hw, if_pos big, hb, if_pos (show eB false = 5 from rfl)]
      | true =>
        rw [if_neg (by decide), if_neg (by omega)] at hb
        have hwn := whole_nil 1000 (by omega)
        have hwn' : g16 (1, [.i 1000]) = _ := hwn
        have hsm := same_ok 1000 (List.replicate 1000 0) (List.length_replicate)
        have t1 : Int.toNat 1000 = 1000 := rfl
        rw [t1] at hb
        simp -implicitDefEqProofs only [g4, g4_0, asI_i, asN_n, asL_l, asB_b, asE_nil, Bool.cond_decide, Bool.cond_not, altK_0, altK_1, altK_2, altK_3, altK_4, altK_5, altK_6, altK_W7, altK_W8, altK_W9, altK_W10, altK_W11, altK_W12, altK_W13, if_true, if_false, cond_true, cond_false, awakeL_ok, hne, len0, len1, hw, if_pos big, hb, hwn', hsm]
    · have hb := byts0 size (eB ok) (by omega)
      cases ok with
      | false =>
        rw [if_pos (by decide)] at hb
        simp -implicitDefEqProofs only [g4, g4_0, asI_i, asN_n, asL_l, asB_b, asE_nil, Bool.cond_decide, Bool.cond_not, altK_0, altK_1, altK_2, altK_3, altK_4, altK_5, altK_6, altK_W7, altK_W8, altK_W9, altK_W10, altK_W11, altK_W12, altK_W13, if_true, if_false, cond_true, cond_false, awakeL_ok, hne, len0, len1, hw, if_neg big, hb, if_pos (show eB false = 5 from rfl)]
      | true =>
        rw [if_neg (by decide)] at hb
        by_cases neg : size < 0
        · rw [if_pos neg] at hb
          simp -implicitDefEqProofs only [g4, g4_0, asI_i, asN_n, asL_l, asB_b, asE_nil, Bool.cond_decide, Bool.cond_not, altK_0, altK_1, altK_2, altK_3, altK_4, altK_5, altK_6, altK_W7, altK_W8, altK_W9, altK_W10, altK_W11, altK_W12, altK_W13, if_true, if_false, cond_true, cond_false, awakeL_ok, hne, len0, len1, hw, if_neg big, hb, if_pos neg]
        · rw [if_neg neg] at hb
          obtain ⟨z, rfl⟩ : ∃ z : Nat, size = z := ⟨size.toNat, by omega⟩
          rw [Int.toNat_natCast] at hb
          have hwn := whole_nil z (by omega)
          have hsm := same_ok z (List.replicate z 0) (List.length_replicate)
          simp -implicitDefEqProofs only [g4, g4_0, asI_i, asN_n, asL_l, asB_b, asE_nil, Bool.cond_decide, Bool.cond_not, altK_0, altK_1, altK_2, altK_3, altK_4, altK_5, altK_6, altK_W7, altK_W8, altK_W9, altK_W10, altK_W11, altK_W12, altK_W13, if_true, if_false, cond_true, cond_false, awakeL_ok, hne, len0, len1, hw, if_neg big, hb, if_neg neg, hwn, hsm]
  · have e1 : endL m size h (A, ok) = (3, [.i size, .n A.length, .b ok, .l h, .n ((A.length + 7) / 8), .i A.length, .i (eB ok), .l (packL A ((A.length + 7) / 8)), .l A]) := if_neg c
    rw [e1] at hw
    have w7 : IntKind.i64.wrap ((A.length : Int) + 7) = ((A.length + 7 : Nat) : Int) := wrap_nat (n := A.length + 7) (by omega)
    have wd : IntKind.i64.wrap (Int.tdiv ((A.length + 7 : Nat) : Int) 8) = (((A.length + 7) / 8 : Nat) : Int) := by rw [Int.tdiv_eq_ediv_of_nonneg (by omega), wrap64 (by omega) (by omega)]; omega
    by_cases big : 1000 < size
    · have hb := byts1 A 1000 (eB ok) (by omega)
      unfold WL at hb
      cases ok with
      | false =>
        rw [if_pos (by decide)] at hb
        generalize packL A ((A.length + 7) / 8) = by_ at *
        simp -implicitDefEqProofs only [g4, g4_0, asI_i, asN_n, asL_l, asB_b, asE_nil, Bool.cond_decide, Bool.cond_not, altK_0, altK_1, altK_2, altK_3, altK_4, altK_5, altK_6, altK_W7, altK_W8, altK_W9, altK_W10, altK_W11, altK_W12, altK_W13, if_true, if_false, cond_true, cond_false, awakeL_ok, hne, len0, len1, hw, if_pos big, hb, if_pos (show eB false = 5 from rfl)]
      | true =>
        rw [if_neg (by decide), if_neg (by omega), if_neg (by omega)] at hb
        have hwn := whole_ok A h01 1000 (by omega) (by omega)
        have hwn' : g16 (0, [.n A.length, .i 1000, .l A]) = _ := hwn
        have hsm := same_ok 1000 (packL A 1000) (pack_len A 1000)
        have t1 : Int.toNat 1000 = 1000 := rfl
        rw [t1] at hb
        simp only [List.cons_append, List.nil_append] at hb
        generalize packL A ((A.length + 7) / 8) = by_ at *
        generalize packL A 1000 = out at *
        simp -implicitDefEqProofs only [g4, g4_0, asI_i, asN_n, asL_l, asB_b, asE_nil, Bool.cond_decide, Bool.cond_not, altK_0, altK_1, altK_2, altK_3, altK_4, altK_5, altK_6, altK_W7, altK_W8, altK_W9, altK_W10, altK_W11, altK_W12, altK_W13, if_true, if_false, cond_true, cond_false, awakeL_ok, hne, len0, len1, hw, if_pos big, hb, w7, wd, if_neg (show ¬ (1000 : Int) < (((A.length + 7) / 8 : Nat) : Int) by omega), hwn', hsm]
    · have hb := byts1 A size (eB ok) (by omega)
      unfold WL at hb
      cases ok with
      | false =>
        rw [if_pos (by decide)] at hb
        generalize packL A ((A.length + 7) / 8) = by_ at *
        simp -implicitDefEqProofs only [g4, g4_0, asI_i, asN_n, asL_l, asB_b, asE_nil, Bool.cond_decide, Bool.cond_not, altK_0, altK_1, altK_2, altK_3, altK_4, altK_5, altK_6, altK_W7, altK_W8, altK_W9, altK_W10, altK_W11, altK_W12, altK_W13, if_true, if_false, cond_true, cond_false, awakeL_ok, hne, len0, len1, hw, if_neg big, hb, if_pos (show eB false = 5 from rfl)]
      | true =>
        rw [if_neg (by decide)] at hb
        by_cases neg : size < 0
        · rw [if_pos neg] at hb
          generalize packL A ((A.length + 7) / 8) = by_ at *
          simp -implicitDefEqProofs only [g4, g4_0, asI_i, asN_n, asL_l, asB_b, asE_nil, Bool.cond_decide, Bool.cond_not, altK_0, altK_1, altK_2, altK_3, altK_4, altK_5, altK_6, altK_W7, altK_W8, altK_W9, altK_W10, altK_W11, altK_W12, altK_W13, if_true, if_false, cond_true, cond_false, awakeL_ok, hne, len0, len1, hw, if_neg big, hb, if_pos neg]
        · rw [if_neg neg] at hb
          by_cases lng : size < ((A.length + 7) / 8 : Nat)
          · rw [if_pos lng] at hb
            generalize packL A ((A.length + 7) / 8) = by_ at *
            simp -implicitDefEqProofs only [g4, g4_0, asI_i, asN_n, asL_l, asB_b, asE_nil, Bool.cond_decide, Bool.cond_not, altK_0, altK_1, altK_2, altK_3, altK_4, altK_5, altK_6, altK_W7, altK_W8, altK_W9, altK_W10, altK_W11, altK_W12, altK_W13, if_true, if_false, cond_true, cond_false, awakeL_ok, hne, len0, len1, hw, if_neg big, hb, if_neg neg, w7, wd, if_pos lng]
          · rw [if_neg lng] at hb
            obtain ⟨z, rfl⟩ : ∃ z : Nat, size = z := ⟨size.toNat, by omega⟩
            rw [Int.toNat_natCast] at hb
            have hwn := whole_ok A h01 z (by omega) (by omega)
            have hsm := same_ok z (packL A z) (pack_len A z)
            simp only [List.cons_append, List.nil_append] at hb
            generalize packL A ((A.length + 7) / 8) = by_ at *
            generalize packL A z = out at *
            simp -implicitDefEqProofs only [g4, g4_0, asI_i, asN_n, asL_l, asB_b, asE_nil, Bool.cond_decide, Bool.cond_not, altK_0, altK_1, altK_2, altK_3, altK_4, altK_5, altK_6, altK_W7, altK_W8, altK_W9, altK_W10, altK_W11, altK_W12, altK_W13, if_true, if_false, cond_true, cond_false, awakeL_ok, hne, len0, len1, hw, if_neg big, hb, if_neg neg, w7, wd, if_neg lng, hwn, hsm]
theorem ev_W (m : Nat) (size : Int) (h : List Int) (hm : h.length = m * 3) (hV : ∀ k, k < m → -9223372036854775808 ≤ h.getD (k * 3 + 1) 0 ∧ h.getD (k * 3 + 1) 0 ≤ 9223372036854775807) : ∃ d, evF tab d 4 [.slice 0 0 m 3, .int .i64 size] [⟨false, .mix [.bool, .int .i64, .int .i64] h⟩] = some (.bool true, [⟨false, .mix [.bool, .int .i64, .int .i64] h⟩], []) :=
  ⟨_, (ok4 0).ret (i := 0) (ls := [.n m, .i size, .l h]) (j := 0) (r := [.b true, .l h]) (law_W m size h (by omega) hV) rfl rfl rfl rfl⟩
end Go.Proofs.Ytkahlinndcnjiaa
