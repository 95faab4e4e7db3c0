/-
  A bus's parts out of a list of numbers, the program's and the document's. Conditions: none.
-/
import Derived.Test.YtlbfafbhflblcaaPas
import Derived.Test.YtlbfafbhflblcaaDecQ
namespace Go.Proofs.Ytlbfafbhflblcaa
open Go Go.Sx P
open Q
set_option maxRecDepth 100000
set_option linter.unusedVariables false
attribute [local simp] asI_i Zc Zd Zb ZQ Zj Zh Ze3 Za Zat Zk ZF Z0 Zag ZH Zau Bool.cond_decide Bool.cond_not Int.toNat_natCast
set_option linter.unusedSimpArgs false
def ptAt (a : List Int) (k : Nat) : Pt := ⟨a.getD (k * 10) 0, a.getD (k * 10 + 1) 0, a.getD (k * 10 + 2) 0, a.getD (k * 10 + 3) 0, a.getD (k * 10 + 4) 0, a.getD (k * 10 + 5) 0, a.getD (k * 10 + 6) 0, a.getD (k * 10 + 7) 0, a.getD (k * 10 + 8) 0, a.getD (k * 10 + 9) 0⟩
def sg0 (a : List Int) (k : Nat) : Sg := ⟨ptAt a k, Fi.z4, Fi.z4, 0, fun _ => 0, fun _ => 0⟩
def ZL (a : List Int) (n : Nat) : List Sg := (List.range n).map (sg0 a)
theorem Zjz (a : List Int) (n : Nat) : ZL a (n + 1) = ZL a n ++ [sg0 a n] := by unfold ZL; rw [List.range_succ, List.map_append]; rfl
theorem Zdl (a : List Int) (n : Nat) : (ZL a n).length = n := by unfold ZL; rw [List.length_map, List.length_range]
theorem Zhl (a : List Int) (n : Nat) (f : Sg → ME) : (ZL a (n + 1)).map f = (ZL a n).map f ++ [f (sg0 a n)] := by rw [Zjz, List.map_append]; rfl
theorem ZjA {a : List Int} {n : Nat} (h : ∀ k, k < n → (ptAt a k).ok) : Fine 0 (ZL a n) := fun s hs => by
  unfold ZL at hs
  obtain ⟨k, hk, rfl⟩ := List.mem_map.1 hs
  exact ⟨⟨h k (List.mem_range.1 hk), Fi.z4_ok, Fi.z4_ok⟩, Nat.le_refl _⟩
theorem Zlq (k c0 c1 c2 c3 c4 d b w g : Int) : g10 (0, I8 k c0 c1 c2 c3 c4 d b [.i w, .i g]) = some (0, [.b (decide (Pt.ok ⟨k, c0, c1, c2, c3, c4, d, b, w, g⟩))]) := by
  have hi : Pt.ok ⟨k, c0, c1, c2, c3, c4, d, b, w, g⟩ ↔ ((k = 0 ∧ Fi.Right c0 c1 c2 c3 c4) ∨ (k = 1 ∧ Ec.RightE d b w) ∨ (k = 2 ∧ 0 ≤ g ∧ g ≤ 1024) ∨ k = 3 ∨ k = 4) := Iff.rfl
  simp -implicitDefEqProofs only [g10, g10_0, asI_i, Zc, Zd, Zb, I4, I8, I16, ZQ, Za, Bool.cond_decide, Fi.right6, Ec.right_ok, Zk]
  by_cases h0 : k = 0
  · rw [if_pos h0]
    by_cases hf : Fi.Right c0 c1 c2 c3 c4
    · rw [decide_eq_true hf, decide_eq_true (hi.2 (Or.inl ⟨h0, hf⟩))]
    · rw [decide_eq_false hf, decide_eq_false fun h => by rcases hi.1 h with ⟨_, h⟩ | h | h | h | h <;> first | exact hf h | omega]
  rw [if_neg h0]
  by_cases h1 : k = 1
  · rw [if_pos h1]
    by_cases he : Ec.RightE d b w
    · rw [decide_eq_true he, decide_eq_true (hi.2 (Or.inr (Or.inl ⟨h1, he⟩)))]
    · rw [decide_eq_false he, decide_eq_false fun h => by rcases hi.1 h with h | ⟨_, h⟩ | h | h | h <;> first | exact he h | omega]
  rw [if_neg h1]
  by_cases h2 : k = 2
  · rw [if_pos h2]
    by_cases hg : 0 ≤ g
    · rw [if_pos hg]
      by_cases hg2 : g ≤ 1024
      · rw [decide_eq_true hg2, decide_eq_true (hi.2 (Or.inr (Or.inr (Or.inl ⟨h2, hg, hg2⟩))))]
      · rw [decide_eq_false hg2, decide_eq_false fun h => by rcases hi.1 h with h | h | h | h | h <;> omega]
    · rw [if_neg hg, decide_eq_false fun h => by rcases hi.1 h with h | h | h | h | h <;> omega]
  rw [if_neg h2]
  by_cases h3 : k = 3
  · rw [if_pos h3, decide_eq_true (hi.2 (Or.inr (Or.inr (Or.inr (Or.inl h3)))))]
  rw [if_neg h3]
  by_cases h4 : k = 4
  · rw [decide_eq_true h4, decide_eq_true (hi.2 (Or.inr (Or.inr (Or.inr (Or.inr h4)))))]
  · rw [decide_eq_false h4, decide_eq_false fun h => by rcases hi.1 h with h | h | h | h | h <;> omega]
theorem Zlr (k c0 c1 c2 c3 c4 d b w g : Int) : g11 (0, I8 k c0 c1 c2 c3 c4 d b [.i w, .i g]) = some (0, [.b (decide (Pt.ok ⟨k, c0, c1, c2, c3, c4, d, b, w, g⟩))]) := by
  have hi : Pt.ok ⟨k, c0, c1, c2, c3, c4, d, b, w, g⟩ ↔ ((k = 0 ∧ Fi.Right c0 c1 c2 c3 c4) ∨ (k = 1 ∧ Ec.RightE d b w) ∨ (k = 2 ∧ 0 ≤ g ∧ g ≤ 1024) ∨ k = 3 ∨ k = 4) := Iff.rfl
  simp -implicitDefEqProofs only [g11, g11_0, asI_i, Zc, Zd, Zb, I4, I8, I16, ZQ, Za, Bool.cond_decide, Fi.right6, Ec.right_ok, Zk]
  by_cases h0 : k = 0
  · rw [if_pos h0]
    by_cases hf : Fi.Right c0 c1 c2 c3 c4
    · rw [decide_eq_true hf, decide_eq_true (hi.2 (Or.inl ⟨h0, hf⟩))]
    · rw [decide_eq_false hf, decide_eq_false fun h => by rcases hi.1 h with ⟨_, h⟩ | h | h | h | h <;> first | exact hf h | omega]
  rw [if_neg h0]
  by_cases h1 : k = 1
  · rw [if_pos h1]
    by_cases he : Ec.RightE d b w
    · rw [decide_eq_true he, decide_eq_true (hi.2 (Or.inr (Or.inl ⟨h1, he⟩)))]
    · rw [decide_eq_false he, decide_eq_false fun h => by rcases hi.1 h with h | ⟨_, h⟩ | h | h | h <;> first | exact he h | omega]
  rw [if_neg h1]
  by_cases h2 : k = 2
  · rw [if_pos h2]
    by_cases hg : 0 ≤ g
    · rw [if_pos hg]
      by_cases hg2 : g ≤ 1024
      · rw [decide_eq_true hg2, decide_eq_true (hi.2 (Or.inr (Or.inr (Or.inl ⟨h2, hg, hg2⟩))))]
      · rw [decide_eq_false hg2, decide_eq_false fun h => by rcases hi.1 h with h | h | h | h | h <;> omega]
    · rw [if_neg hg, decide_eq_false fun h => by rcases hi.1 h with h | h | h | h | h <;> omega]
  rw [if_neg h2]
  by_cases h3 : k = 3
  · rw [if_pos h3, decide_eq_true (hi.2 (Or.inr (Or.inr (Or.inr (Or.inl h3)))))]
  rw [if_neg h3]
  by_cases h4 : k = 4
  · rw [decide_eq_true h4, decide_eq_true (hi.2 (Or.inr (Or.inr (Or.inr (Or.inr h4)))))]
  · rw [decide_eq_false h4, decide_eq_false fun h => by rcases hi.1 h with h | h | h | h | h <;> omega]
def cS0 (n k : Nat) (a : List Int) : Nat → Nat × List Leaf
  | 0 => (0, .n n :: .l a :: I8 (k : Nat) (a.getD (k * 10) 0) (a.getD (k * 10 + 1) 0) (a.getD (k * 10 + 2) 0) (a.getD (k * 10 + 3) 0) (a.getD (k * 10 + 4) 0) (a.getD (k * 10 + 5) 0) (a.getD (k * 10 + 6) 0) [.i (a.getD (k * 10 + 7) 0), .i (a.getD (k * 10 + 8) 0), .i (a.getD (k * 10 + 9) 0)])
  | 1 => (1, .n n :: .l a :: I8 (k : Nat) (a.getD (k * 10) 0) (a.getD (k * 10 + 1) 0) (a.getD (k * 10 + 2) 0) (a.getD (k * 10 + 3) 0) (a.getD (k * 10 + 4) 0) (a.getD (k * 10 + 5) 0) (a.getD (k * 10 + 6) 0) (.i (a.getD (k * 10 + 7) 0) :: .i (a.getD (k * 10 + 8) 0) :: .i (a.getD (k * 10 + 9) 0) :: .n 1 :: .n 1 :: I8 (a.getD (k * 10 + 1) 0) (a.getD (k * 10 + 2) 0) (a.getD (k * 10 + 3) 0) (a.getD (k * 10 + 4) 0) (a.getD (k * 10 + 5) 0) 0 0 0 (I4 0 (a.getD (k * 10 + 6) 0) (a.getD (k * 10 + 7) 0) (a.getD (k * 10 + 8) 0) [])))
  | _ => (2, .n n :: .l a :: I8 (k : Nat) (a.getD (k * 10) 0) (a.getD (k * 10 + 1) 0) (a.getD (k * 10 + 2) 0) (a.getD (k * 10 + 3) 0) (a.getD (k * 10 + 4) 0) (a.getD (k * 10 + 5) 0) (a.getD (k * 10 + 6) 0) (.i (a.getD (k * 10 + 7) 0) :: .i (a.getD (k * 10 + 8) 0) :: .i (a.getD (k * 10 + 9) 0) :: .n (1 + 1) :: .n (1 + 1) :: I16 (a.getD (k * 10 + 1) 0) (a.getD (k * 10 + 2) 0) (a.getD (k * 10 + 3) 0) (a.getD (k * 10 + 4) 0) (a.getD (k * 10 + 5) 0) 0 0 0 0 (a.getD (k * 10 + 1) 0) (a.getD (k * 10 + 2) 0) (a.getD (k * 10 + 3) 0) (a.getD (k * 10 + 4) 0) (a.getD (k * 10 + 5) 0) 0 0 (I8 0 0 (a.getD (k * 10 + 6) 0) (a.getD (k * 10 + 7) 0) (a.getD (k * 10 + 8) 0) (a.getD (k * 10 + 6) 0) (a.getD (k * 10 + 7) 0) (a.getD (k * 10 + 8) 0) [])))
theorem Zoj {n k : Nat} {a : List Int} (hk : k < n) (ha : a.length = n * 10) : Zk4 (0, .n n :: .l a :: I8 (k : Nat) (a.getD (k * 10) 0) (a.getD (k * 10 + 1) 0) (a.getD (k * 10 + 2) 0) (a.getD (k * 10 + 3) 0) (a.getD (k * 10 + 4) 0) (a.getD (k * 10 + 5) 0) (a.getD (k * 10 + 6) 0) [.i (a.getD (k * 10 + 7) 0), .i (a.getD (k * 10 + 8) 0), .i (a.getD (k * 10 + 9) 0)]) = some (0, .n n :: .l a :: I8 (k : Nat) (a.getD (k * 10) 0) (a.getD (k * 10 + 1) 0) (a.getD (k * 10 + 2) 0) (a.getD (k * 10 + 3) 0) (a.getD (k * 10 + 4) 0) (a.getD (k * 10 + 5) 0) (a.getD (k * 10 + 6) 0) (.i (a.getD (k * 10 + 7) 0) :: .i (a.getD (k * 10 + 8) 0) :: .i (a.getD (k * 10 + 9) 0) :: .n 2 :: .n 2 :: I16 (a.getD (k * 10 + 1) 0) (a.getD (k * 10 + 2) 0) (a.getD (k * 10 + 3) 0) (a.getD (k * 10 + 4) 0) (a.getD (k * 10 + 5) 0) 0 0 0 0 (a.getD (k * 10 + 1) 0) (a.getD (k * 10 + 2) 0) (a.getD (k * 10 + 3) 0) (a.getD (k * 10 + 4) 0) (a.getD (k * 10 + 5) 0) 0 0 (I8 0 0 (a.getD (k * 10 + 6) 0) (a.getD (k * 10 + 7) 0) (a.getD (k * 10 + 8) 0) (a.getD (k * 10 + 6) 0) (a.getD (k * 10 + 7) 0) (a.getD (k * 10 + 8) 0) []))) := by
  have i1 : (0 : Int) ≤ k ∧ (k : Int) < n := by omega
  have i2 : k * 10 + 1 + 5 ≤ a.length := by omega
  have i3 : k * 10 + 6 + 3 ≤ a.length := by omega
  refine Zp (m := 6) (f := f13_0) (cS0 n k a) 2 (fun j hj => ?_) ?_ (by omega)
  · match j, hj with
    | 0, _ =>
      refine ⟨?_, by show 1 < 6; omega⟩
      simp -implicitDefEqProofs only [cS0, f13_0, f13_0_0, asI_i, Zc, Zd, Zb, I4, I8, I16, Zh, Zj, Zv, Za, if_pos i1, Int.toNat_natCast, if_pos i2, if_pos i3, if_true, show k * 10 + 1 + 1 = k * 10 + 2 from rfl, show k * 10 + 1 + 2 = k * 10 + 3 from rfl, show k * 10 + 1 + 3 = k * 10 + 4 from rfl, show k * 10 + 1 + 4 = k * 10 + 5 from rfl, show k * 10 + 6 + 1 = k * 10 + 7 from rfl, show k * 10 + 6 + 2 = k * 10 + 8 from rfl]
    | 1, _ =>
      refine ⟨?_, by show 2 < 6; omega⟩
      simp -implicitDefEqProofs only [cS0, f13_0, f13_0_1, asI_i, Zc, Zd, Zb, I4, I8, I16, Zh, Zj, Zv, Za, if_pos i1, Int.toNat_natCast, if_pos i2, if_pos i3, if_pos (show (1 + 1) * 8 ≤ 70368744177664 by omega), if_pos (show 1 = 1 * 1 by omega), if_true, show k * 10 + 1 + 1 = k * 10 + 2 from rfl, show k * 10 + 1 + 2 = k * 10 + 3 from rfl, show k * 10 + 1 + 3 = k * 10 + 4 from rfl, show k * 10 + 1 + 4 = k * 10 + 5 from rfl, show k * 10 + 6 + 1 = k * 10 + 7 from rfl, show k * 10 + 6 + 2 = k * 10 + 8 from rfl]
  · simp -implicitDefEqProofs only [cS0, f13_0, f13_0_2, asI_i, Zc, Zd, Zb, I4, I8, I16, Zh, Zj, Zv, Za]
def cS1 (n k q : Nat) (a : List Int) (h : List ME) : Nat → Nat × List Leaf
  | 0 => (3, .n n :: .l a :: .n q :: .i (k : Nat) :: .t h :: I8 (a.getD (k * 10) 0) (a.getD (k * 10 + 1) 0) (a.getD (k * 10 + 2) 0) (a.getD (k * 10 + 3) 0) (a.getD (k * 10 + 4) 0) (a.getD (k * 10 + 5) 0) (a.getD (k * 10 + 6) 0) (a.getD (k * 10 + 7) 0) [.i (a.getD (k * 10 + 8) 0), .i (a.getD (k * 10 + 9) 0)])
  | 1 => (4, .n n :: .l a :: .n q :: .i (k : Nat) :: .t h :: I8 (a.getD (k * 10) 0) (a.getD (k * 10 + 1) 0) (a.getD (k * 10 + 2) 0) (a.getD (k * 10 + 3) 0) (a.getD (k * 10 + 4) 0) (a.getD (k * 10 + 5) 0) (a.getD (k * 10 + 6) 0) (a.getD (k * 10 + 7) 0) (.i (a.getD (k * 10 + 8) 0) :: .i (a.getD (k * 10 + 9) 0) :: .n 1 :: .n 1 :: I8 (a.getD (k * 10 + 1) 0) (a.getD (k * 10 + 2) 0) (a.getD (k * 10 + 3) 0) (a.getD (k * 10 + 4) 0) (a.getD (k * 10 + 5) 0) 0 0 0 (I4 0 (a.getD (k * 10 + 6) 0) (a.getD (k * 10 + 7) 0) (a.getD (k * 10 + 8) 0) [])))
  | _ => (5, .n n :: .l a :: .n q :: .i (k : Nat) :: .t h :: I8 (a.getD (k * 10) 0) (a.getD (k * 10 + 1) 0) (a.getD (k * 10 + 2) 0) (a.getD (k * 10 + 3) 0) (a.getD (k * 10 + 4) 0) (a.getD (k * 10 + 5) 0) (a.getD (k * 10 + 6) 0) (a.getD (k * 10 + 7) 0) (.i (a.getD (k * 10 + 8) 0) :: .i (a.getD (k * 10 + 9) 0) :: .n (1 + 1) :: .n (1 + 1) :: I16 (a.getD (k * 10 + 1) 0) (a.getD (k * 10 + 2) 0) (a.getD (k * 10 + 3) 0) (a.getD (k * 10 + 4) 0) (a.getD (k * 10 + 5) 0) 0 0 0 0 (a.getD (k * 10 + 1) 0) (a.getD (k * 10 + 2) 0) (a.getD (k * 10 + 3) 0) (a.getD (k * 10 + 4) 0) (a.getD (k * 10 + 5) 0) 0 0 (I8 0 0 (a.getD (k * 10 + 6) 0) (a.getD (k * 10 + 7) 0) (a.getD (k * 10 + 8) 0) (a.getD (k * 10 + 6) 0) (a.getD (k * 10 + 7) 0) (a.getD (k * 10 + 8) 0) [])))
theorem Zok {n k q : Nat} {a : List Int} {h : List ME} (hk : k < n) (ha : a.length = n * 10) : Zk4 (3, .n n :: .l a :: .n q :: .i (k : Nat) :: .t h :: I8 (a.getD (k * 10) 0) (a.getD (k * 10 + 1) 0) (a.getD (k * 10 + 2) 0) (a.getD (k * 10 + 3) 0) (a.getD (k * 10 + 4) 0) (a.getD (k * 10 + 5) 0) (a.getD (k * 10 + 6) 0) (a.getD (k * 10 + 7) 0) [.i (a.getD (k * 10 + 8) 0), .i (a.getD (k * 10 + 9) 0)]) = some (1, .n n :: .l a :: .n q :: .i (k : Nat) :: .t h :: I8 (a.getD (k * 10) 0) (a.getD (k * 10 + 1) 0) (a.getD (k * 10 + 2) 0) (a.getD (k * 10 + 3) 0) (a.getD (k * 10 + 4) 0) (a.getD (k * 10 + 5) 0) (a.getD (k * 10 + 6) 0) (a.getD (k * 10 + 7) 0) (.i (a.getD (k * 10 + 8) 0) :: .i (a.getD (k * 10 + 9) 0) :: .n 2 :: .n 2 :: I16 (a.getD (k * 10 + 1) 0) (a.getD (k * 10 + 2) 0) (a.getD (k * 10 + 3) 0) (a.getD (k * 10 + 4) 0) (a.getD (k * 10 + 5) 0) 0 0 0 0 (a.getD (k * 10 + 1) 0) (a.getD (k * 10 + 2) 0) (a.getD (k * 10 + 3) 0) (a.getD (k * 10 + 4) 0) (a.getD (k * 10 + 5) 0) 0 0 (I8 0 0 (a.getD (k * 10 + 6) 0) (a.getD (k * 10 + 7) 0) (a.getD (k * 10 + 8) 0) (a.getD (k * 10 + 6) 0) (a.getD (k * 10 + 7) 0) (a.getD (k * 10 + 8) 0) []))) := by
  have i1 : (0 : Int) ≤ k ∧ (k : Int) < n := by omega
  have i2 : k * 10 + 1 + 5 ≤ a.length := by omega
  have i3 : k * 10 + 6 + 3 ≤ a.length := by omega
  refine Zp (m := 6) (f := f13_0) (cS1 n k q a h) 2 (fun j hj => ?_) ?_ (by omega)
  · match j, hj with
    | 0, _ =>
      refine ⟨?_, by show 4 < 6; omega⟩
      simp -implicitDefEqProofs only [cS1, f13_0, f13_0_3, asI_i, Zc, Zd, Zb, I4, I8, I16, Zh, Zj, Zv, Za, if_pos i1, Int.toNat_natCast, if_pos i2, if_pos i3, if_true, show k * 10 + 1 + 1 = k * 10 + 2 from rfl, show k * 10 + 1 + 2 = k * 10 + 3 from rfl, show k * 10 + 1 + 3 = k * 10 + 4 from rfl, show k * 10 + 1 + 4 = k * 10 + 5 from rfl, show k * 10 + 6 + 1 = k * 10 + 7 from rfl, show k * 10 + 6 + 2 = k * 10 + 8 from rfl]
    | 1, _ =>
      refine ⟨?_, by show 5 < 6; omega⟩
      simp -implicitDefEqProofs only [cS1, f13_0, f13_0_4, asI_i, Zc, Zd, Zb, I4, I8, I16, Zh, Zj, Zv, Za, if_pos i1, Int.toNat_natCast, if_pos i2, if_pos i3, if_pos (show (1 + 1) * 8 ≤ 70368744177664 by omega), if_pos (show 1 = 1 * 1 by omega), if_true, show k * 10 + 1 + 1 = k * 10 + 2 from rfl, show k * 10 + 1 + 2 = k * 10 + 3 from rfl, show k * 10 + 1 + 3 = k * 10 + 4 from rfl, show k * 10 + 1 + 4 = k * 10 + 5 from rfl, show k * 10 + 6 + 1 = k * 10 + 7 from rfl, show k * 10 + 6 + 2 = k * 10 + 8 from rfl]
  · simp -implicitDefEqProofs only [cS1, f13_0, f13_0_5, asI_i, Zc, Zd, Zb, I4, I8, I16, Zh, Zj, Zv, Za]
theorem ZnP (a : List Int) (k : Nat) : (sg0 a k).toP = [(true, .agg [.int .i64 (a.getD (k * 10) 0), .int .i64 (a.getD (k * 10 + 1) 0), .int .i64 (a.getD (k * 10 + 2) 0), .int .i64 (a.getD (k * 10 + 3) 0), .int .i64 (a.getD (k * 10 + 4) 0), .int .i64 (a.getD (k * 10 + 5) 0), .int .i64 (a.getD (k * 10 + 6) 0), .int .i64 (a.getD (k * 10 + 7) 0), .int .i64 (a.getD (k * 10 + 8) 0), .int .i64 (a.getD (k * 10 + 9) 0), .slice 1 0 2 1, .slice 4 0 2 1]), (true, .agg [.ptr 2 0, .ptr 3 0]), (true, .ints .i64 [a.getD (k * 10 + 1) 0, a.getD (k * 10 + 2) 0, a.getD (k * 10 + 3) 0, a.getD (k * 10 + 4) 0, a.getD (k * 10 + 5) 0, 0, 0, 0, 0]), (true, .ints .i64 [a.getD (k * 10 + 1) 0, a.getD (k * 10 + 2) 0, a.getD (k * 10 + 3) 0, a.getD (k * 10 + 4) 0, a.getD (k * 10 + 5) 0, 0, 0, 0, 0]), (true, .agg [.ptr 5 0, .ptr 6 0]), (true, .agg [.int .i64 (a.getD (k * 10 + 6) 0), .int .i64 (a.getD (k * 10 + 7) 0), .int .i64 (a.getD (k * 10 + 8) 0), .nils]), (true, .agg [.int .i64 (a.getD (k * 10 + 6) 0), .int .i64 (a.getD (k * 10 + 7) 0), .int .i64 (a.getD (k * 10 + 8) 0), .nils])] := rfl
def chS (n : Nat) (a : List Int) : Nat → Nat × List Leaf
  | 0 => (0, [.n n, .l a, .i (0 : Nat)])
  | k + 1 => (1, [.n n, .l a, .n (k + 1), .i (k + 1 : Nat), .t ((ZL a (k + 1)).map Sg.toP)])
theorem Zmg {n : Nat} (hn : n ≤ 16) {a : List Int} (ha : a.length = n * 10) : g13 (0, [.n n, .l a]) = if n = 0 then some (0, []) else some (1, [.n n, .t ((ZL a n).map Sg.toP)]) := by
  have hL : Zl4 (chS n a 0) = if n = 0 then some (0, []) else some (1, [.n n, .t ((ZL a n).map Sg.toP)]) := by
    by_cases h0 : n = 0
    · subst h0
      rw [if_pos rfl]
      refine Zp (m := 2) (f := f13_1) (chS 0 a) 0 (fun k hk => absurd hk (Nat.not_lt_zero _)) ?_ (by omega)
      simp -implicitDefEqProofs only [chS, f13_1, f13_1_0, asI_i, Zc, Zd, Zb, I4, I8, I16, Zh, Zj, Za, Bool.cond_decide, if_neg (Int.lt_irrefl _)]
    · rw [if_neg h0]
      obtain ⟨q, rfl⟩ : ∃ q, n = q + 1 := ⟨n - 1, by omega⟩
      refine Zp (m := 2) (f := f13_1) (chS (q + 1) a) (q + 1) (fun k hk => ?_) ?_ (by omega)
      · have w2 : IntKind.i64.wrap ((k : Int) + 1) = ((k + 1 : Nat) : Int) := Z6 (n := k + 1) (by omega)
        have i1 : (k : Int) < (q + 1 : Nat) := by omega
        have i2 : (0 : Int) ≤ k ∧ (k : Int) < (q + 1 : Nat) := by omega
        have i3 : k * 10 + 10 ≤ a.length := by omega
        match k, hk, w2, i1, i2, i3 with
        | 0, hk, w2, i1, i2, i3 =>
          refine ⟨?_, by show 1 < 2; omega⟩
          have hc := Zoj (n := q + 1) (k := 0) (a := a) hk ha
          have e : (ZL a (0 + 1)).map Sg.toP = [(sg0 a 0).toP] := rfl
          simp -implicitDefEqProofs only [chS, f13_1, f13_1_0, asI_i, Zc, Zd, Zb, I4, I8, I16, Zh, Zj, Zv, Za, Bool.cond_decide, if_pos i1, if_pos i2, if_pos i3, Int.toNat_natCast, hc, Zk, w2, e, ZnP]
          try rfl
        | k + 1, hk, w2, i1, i2, i3 =>
          refine ⟨?_, by show 1 < 2; omega⟩
          have hc := Zok (n := q + 1) (k := k + 1) (q := k + 1) (a := a) (h := (ZL a (k + 1)).map Sg.toP) hk ha
          have c1 : k + 1 = ((ZL a (k + 1)).map Sg.toP).length := by rw [List.length_map, Zdl]
          have c2 : (k + 1 + 1) * 8 ≤ 70368744177664 := by omega
          have e : (ZL a (k + 1 + 1)).map Sg.toP = (ZL a (k + 1)).map Sg.toP ++ [(sg0 a (k + 1)).toP] := Zhl a (k + 1) Sg.toP
          simp -implicitDefEqProofs only [chS, f13_1, f13_1_1, asI_i, Zc, Zd, Zb, I4, I8, I16, Zh, Zj, Zv, Za, Bool.cond_decide, if_pos i1, if_pos i2, if_pos i3, Int.toNat_natCast, hc, ZF, if_pos c1, if_pos c2, w2, e, ZnP]
          try rfl
      · simp -implicitDefEqProofs only [chS, f13_1, f13_1_1, asI_i, Zc, Zd, Zb, I4, I8, I16, Zh, Zj, Zv, Za, Bool.cond_decide, if_neg (Int.lt_irrefl _)]
  replace hL : Zl4 (0, [.n n, .l a, .i 0]) = if n = 0 then some (0, []) else some (1, [.n n, .t ((ZL a n).map Sg.toP)]) := hL
  simp -implicitDefEqProofs only [g13, g13_0, asI_i, Zc, Zd, Zb, I4, I8, I16, Zh, Zj, Zv, Za, hL]
  by_cases h0 : n = 0
  · simp -implicitDefEqProofs only [if_pos h0, Zk, Za]
  · simp -implicitDefEqProofs only [if_neg h0, ZF, Zh, Zv, Za]
theorem ZdU {α : Type} (r : List Leaf) (k k1 k2 k3 k4 k5 k6 k7 : List Leaf → α) (ks : List (List Leaf → α)) (z : α) : altK (some (7, r)) (k :: k1 :: k2 :: k3 :: k4 :: k5 :: k6 :: k7 :: ks) z = k7 r := rfl
theorem Zcd (d b w : Int) (h : ¬ Ec.RightE d b w) : g23 (0, [.i d, .i b, .i w]) = some (1, [.i 1]) := by
  have hr := Ec.right_ok d b w
  rw [decide_eq_false h] at hr
  simp -implicitDefEqProofs only [g23, g23_0, asI_i, Zc, Zd, Zb, I4, I8, I16, ZQ, Za, hr, Zk, Bool.not_false, cond_true]
def ZhS (n D : Nat) (a : List Int) (x y k c0 c1 c2 c3 c4 b w g : Int) (v1 v2 v3 v4 v5 v6 v7 v8 v9 v10 v11 v12 v13 v14 v15 v16 v17 v18 v19 : Int) : Nat → Nat × List Leaf
  | 0 => (0, .n n :: .l a :: I16 x y v1 v2 v3 v4 v5 v6 v7 v8 v9 v10 v11 v12 v13 v14 (I16 v15 v16 v17 v18 v19 k c0 c1 c2 c3 c4 (D : Int) b w g k (I8 c0 c1 c2 c3 c4 (D : Int) b w [.i g])))
  | 1 => (1, .n n :: .l a :: I16 x y v1 v2 v3 v4 v5 v6 v7 v8 v9 v10 v11 v12 v13 v14 (I16 v15 v16 v17 v18 v19 k c0 c1 c2 c3 c4 (D : Int) b w g k (I16 c0 c1 c2 c3 c4 (D : Int) b w g c0 c1 c2 c3 c4 0 0 (I4 0 0 (D : Int) b [.i w, .n D, .i 0, .l (Ec.ring D b (fun _ => 0) 0)]))))
  | _ => (5, .n n :: .l a :: I16 x y v1 v2 v3 v4 v5 v6 v7 v8 v9 v10 v11 v12 v13 v14 (I16 v15 v16 v17 v18 v19 k c0 c1 c2 c3 c4 (D : Int) b w g k (I16 c0 c1 c2 c3 c4 (D : Int) b w g c0 c1 c2 c3 c4 0 0 (I8 0 0 c0 c1 c2 c3 c4 0 (I4 0 0 0 (D : Int) [.i b, .i w, .n D, .i 0, .l (Ec.ring D b (fun _ => 0) 0), .i (D : Int), .i b, .i w, .n D, .i 0, .l (Ec.ring D b (fun _ => 0) 0)])))))
theorem nin0_0 (n D : Nat) (a : List Int) (x y k c0 c1 c2 c3 c4 b w g : Int) (v1 v2 v3 v4 v5 v6 v7 v8 v9 v10 v11 v12 v13 v14 v15 v16 v17 v18 v19 : Int) (hf : Fi.Right c0 c1 c2 c3 c4) (he : Ec.RightE (D : Int) b w) : L9_0 (ZhS n D a x y k c0 c1 c2 c3 c4 b w g v1 v2 v3 v4 v5 v6 v7 v8 v9 v10 v11 v12 v13 v14 v15 v16 v17 v18 v19 0) = some (0, (ZhS n D a x y k c0 c1 c2 c3 c4 b w g v1 v2 v3 v4 v5 v6 v7 v8 v9 v10 v11 v12 v13 v14 v15 v16 v17 v18 v19 2).2) := by
  refine Zp (m := 18) (f := f9_0) (ZhS n D a x y k c0 c1 c2 c3 c4 b w g v1 v2 v3 v4 v5 v6 v7 v8 v9 v10 v11 v12 v13 v14 v15 v16 v17 v18 v19) 2 (fun j hj => ?_) ?_ (by omega)
  · match j, hj with
    | 0, _ =>
      refine ⟨?_, by show 1 < 18; omega⟩
      simp -implicitDefEqProofs only [ZhS, f9_0, f9_0_0, asI_i, Zc, Zd, Zb, I4, I8, I16, Zh, Zj, Zv, Za, Fi.new_yes c0 c1 c2 c3 c4 hf, Ec.new_yes he (fun _ => 0), Zk, ZF]
    | 1, _ =>
      refine ⟨?_, by show 5 < 18; omega⟩
      simp -implicitDefEqProofs only [ZhS, f9_0, f9_0_1, asI_i, Zc, Zd, Zb, I4, I8, I16, Zh, Zj, Zv, Za, Fi.new_yes c0 c1 c2 c3 c4 hf, Ec.new_yes he (fun _ => 0), Zk, ZF]
  · simp -implicitDefEqProofs only [ZhS, f9_0, f9_0_5, asI_i, Zc, Zd, Zb, I4, I8, I16, Zh, Zj, Zv, Za]
def ZhT (n : Nat) (a : List Int) (x y k c0 c1 c2 c3 c4 d b w g : Int) (v1 v2 v3 v4 v5 v6 v7 v8 v9 v10 v11 v12 v13 v14 v15 v16 v17 v18 v19 : Int) : Nat → Nat × List Leaf
  | 0 => (0, .n n :: .l a :: I16 x y v1 v2 v3 v4 v5 v6 v7 v8 v9 v10 v11 v12 v13 v14 (I16 v15 v16 v17 v18 v19 k c0 c1 c2 c3 c4 d b w g k (I8 c0 c1 c2 c3 c4 d b w [.i g])))
  | 1 => (2, .n n :: .l a :: I16 x y v1 v2 v3 v4 v5 v6 v7 v8 v9 v10 v11 v12 v13 v14 (I16 v15 v16 v17 v18 v19 k c0 c1 c2 c3 c4 d b w g k (I16 c0 c1 c2 c3 c4 d b w g c0 c1 c2 c3 c4 0 0 [.i 0, .i 0])))
  | _ => (6, .n n :: .l a :: I16 x y v1 v2 v3 v4 v5 v6 v7 v8 v9 v10 v11 v12 v13 v14 (I16 v15 v16 v17 v18 v19 k c0 c1 c2 c3 c4 d b w g k (I16 c0 c1 c2 c3 c4 d b w g c0 c1 c2 c3 c4 0 0 (I8 0 0 c0 c1 c2 c3 c4 0 [.i 0, .i 0, .i 0]))))
theorem nin0_1 (n : Nat) (a : List Int) (x y k c0 c1 c2 c3 c4 d b w g : Int) (v1 v2 v3 v4 v5 v6 v7 v8 v9 v10 v11 v12 v13 v14 v15 v16 v17 v18 v19 : Int) (hf : Fi.Right c0 c1 c2 c3 c4) (he : ¬ Ec.RightE d b w) : L9_0 (ZhT n a x y k c0 c1 c2 c3 c4 d b w g v1 v2 v3 v4 v5 v6 v7 v8 v9 v10 v11 v12 v13 v14 v15 v16 v17 v18 v19 0) = some (1, (ZhT n a x y k c0 c1 c2 c3 c4 d b w g v1 v2 v3 v4 v5 v6 v7 v8 v9 v10 v11 v12 v13 v14 v15 v16 v17 v18 v19 2).2) := by
  refine Zp (m := 18) (f := f9_0) (ZhT n a x y k c0 c1 c2 c3 c4 d b w g v1 v2 v3 v4 v5 v6 v7 v8 v9 v10 v11 v12 v13 v14 v15 v16 v17 v18 v19) 2 (fun j hj => ?_) ?_ (by omega)
  · match j, hj with
    | 0, _ =>
      refine ⟨?_, by show 2 < 18; omega⟩
      simp -implicitDefEqProofs only [ZhT, f9_0, f9_0_0, asI_i, Zc, Zd, Zb, I4, I8, I16, Zh, Zj, Zv, Za, Fi.new_yes c0 c1 c2 c3 c4 hf, Zcd d b w he, Zk, ZF]
    | 1, _ =>
      refine ⟨?_, by show 6 < 18; omega⟩
      simp -implicitDefEqProofs only [ZhT, f9_0, f9_0_2, asI_i, Zc, Zd, Zb, I4, I8, I16, Zh, Zj, Zv, Za, Fi.new_yes c0 c1 c2 c3 c4 hf, Zcd d b w he, Zk, ZF]
  · simp -implicitDefEqProofs only [ZhT, f9_0, f9_0_6, asI_i, Zc, Zd, Zb, I4, I8, I16, Zh, Zj, Zv, Za]
def ZhU (n D : Nat) (a : List Int) (x y k c0 c1 c2 c3 c4 b w g : Int) (v1 v2 v3 v4 v5 v6 v7 v8 v9 v10 v11 v12 v13 v14 v15 v16 v17 v18 v19 : Int) : Nat → Nat × List Leaf
  | 0 => (0, .n n :: .l a :: I16 x y v1 v2 v3 v4 v5 v6 v7 v8 v9 v10 v11 v12 v13 v14 (I16 v15 v16 v17 v18 v19 k c0 c1 c2 c3 c4 (D : Int) b w g k (I8 c0 c1 c2 c3 c4 (D : Int) b w [.i g])))
  | 1 => (3, .n n :: .l a :: I16 x y v1 v2 v3 v4 v5 v6 v7 v8 v9 v10 v11 v12 v13 v14 (I16 v15 v16 v17 v18 v19 k c0 c1 c2 c3 c4 (D : Int) b w g k (I8 c0 c1 c2 c3 c4 (D : Int) b w (I4 g (D : Int) b w [.n D, .i 0, .l (Ec.ring D b (fun _ => 0) 0)]))))
  | _ => (7, .n n :: .l a :: I16 x y v1 v2 v3 v4 v5 v6 v7 v8 v9 v10 v11 v12 v13 v14 (I16 v15 v16 v17 v18 v19 k c0 c1 c2 c3 c4 (D : Int) b w g k (I8 c0 c1 c2 c3 c4 (D : Int) b w (I4 g (D : Int) b w [.n D, .i 0, .l (Ec.ring D b (fun _ => 0) 0), .i (D : Int), .i b, .i w, .n D, .i 0, .l (Ec.ring D b (fun _ => 0) 0)]))))
theorem nin0_2 (n D : Nat) (a : List Int) (x y k c0 c1 c2 c3 c4 b w g : Int) (v1 v2 v3 v4 v5 v6 v7 v8 v9 v10 v11 v12 v13 v14 v15 v16 v17 v18 v19 : Int) (hf : ¬ Fi.Right c0 c1 c2 c3 c4) (he : Ec.RightE (D : Int) b w) : L9_0 (ZhU n D a x y k c0 c1 c2 c3 c4 b w g v1 v2 v3 v4 v5 v6 v7 v8 v9 v10 v11 v12 v13 v14 v15 v16 v17 v18 v19 0) = some (2, (ZhU n D a x y k c0 c1 c2 c3 c4 b w g v1 v2 v3 v4 v5 v6 v7 v8 v9 v10 v11 v12 v13 v14 v15 v16 v17 v18 v19 2).2) := by
  refine Zp (m := 18) (f := f9_0) (ZhU n D a x y k c0 c1 c2 c3 c4 b w g v1 v2 v3 v4 v5 v6 v7 v8 v9 v10 v11 v12 v13 v14 v15 v16 v17 v18 v19) 2 (fun j hj => ?_) ?_ (by omega)
  · match j, hj with
    | 0, _ =>
      refine ⟨?_, by show 3 < 18; omega⟩
      simp -implicitDefEqProofs only [ZhU, f9_0, f9_0_0, asI_i, Zc, Zd, Zb, I4, I8, I16, Zh, Zj, Zv, Za, Fi.new_no c0 c1 c2 c3 c4 hf, Ec.new_yes he (fun _ => 0), Zk, ZF]
    | 1, _ =>
      refine ⟨?_, by show 7 < 18; omega⟩
      simp -implicitDefEqProofs only [ZhU, f9_0, f9_0_3, asI_i, Zc, Zd, Zb, I4, I8, I16, Zh, Zj, Zv, Za, Fi.new_no c0 c1 c2 c3 c4 hf, Ec.new_yes he (fun _ => 0), Zk, ZF]
  · simp -implicitDefEqProofs only [ZhU, f9_0, f9_0_7, asI_i, Zc, Zd, Zb, I4, I8, I16, Zh, Zj, Zv, Za]
def ZhV (n : Nat) (a : List Int) (x y k c0 c1 c2 c3 c4 d b w g : Int) (v1 v2 v3 v4 v5 v6 v7 v8 v9 v10 v11 v12 v13 v14 v15 v16 v17 v18 v19 : Int) : Nat → Nat × List Leaf
  | 0 => (0, .n n :: .l a :: I16 x y v1 v2 v3 v4 v5 v6 v7 v8 v9 v10 v11 v12 v13 v14 (I16 v15 v16 v17 v18 v19 k c0 c1 c2 c3 c4 d b w g k (I8 c0 c1 c2 c3 c4 d b w [.i g])))
  | 1 => (4, .n n :: .l a :: I16 x y v1 v2 v3 v4 v5 v6 v7 v8 v9 v10 v11 v12 v13 v14 (I16 v15 v16 v17 v18 v19 k c0 c1 c2 c3 c4 d b w g k (I8 c0 c1 c2 c3 c4 d b w [.i g])))
  | _ => (8, .n n :: .l a :: I16 x y v1 v2 v3 v4 v5 v6 v7 v8 v9 v10 v11 v12 v13 v14 (I16 v15 v16 v17 v18 v19 k c0 c1 c2 c3 c4 d b w g k (I8 c0 c1 c2 c3 c4 d b w [.i g])))
theorem nin0_3 (n : Nat) (a : List Int) (x y k c0 c1 c2 c3 c4 d b w g : Int) (v1 v2 v3 v4 v5 v6 v7 v8 v9 v10 v11 v12 v13 v14 v15 v16 v17 v18 v19 : Int) (hf : ¬ Fi.Right c0 c1 c2 c3 c4) (he : ¬ Ec.RightE d b w) : L9_0 (ZhV n a x y k c0 c1 c2 c3 c4 d b w g v1 v2 v3 v4 v5 v6 v7 v8 v9 v10 v11 v12 v13 v14 v15 v16 v17 v18 v19 0) = some (3, (ZhV n a x y k c0 c1 c2 c3 c4 d b w g v1 v2 v3 v4 v5 v6 v7 v8 v9 v10 v11 v12 v13 v14 v15 v16 v17 v18 v19 2).2) := by
  refine Zp (m := 18) (f := f9_0) (ZhV n a x y k c0 c1 c2 c3 c4 d b w g v1 v2 v3 v4 v5 v6 v7 v8 v9 v10 v11 v12 v13 v14 v15 v16 v17 v18 v19) 2 (fun j hj => ?_) ?_ (by omega)
  · match j, hj with
    | 0, _ =>
      refine ⟨?_, by show 4 < 18; omega⟩
      simp -implicitDefEqProofs only [ZhV, f9_0, f9_0_0, asI_i, Zc, Zd, Zb, I4, I8, I16, Zh, Zj, Zv, Za, Fi.new_no c0 c1 c2 c3 c4 hf, Zcd d b w he, Zk, ZF]
    | 1, _ =>
      refine ⟨?_, by show 8 < 18; omega⟩
      simp -implicitDefEqProofs only [ZhV, f9_0, f9_0_4, asI_i, Zc, Zd, Zb, I4, I8, I16, Zh, Zj, Zv, Za, Fi.new_no c0 c1 c2 c3 c4 hf, Zcd d b w he, Zk, ZF]
  · simp -implicitDefEqProofs only [ZhV, f9_0, f9_0_8, asI_i, Zc, Zd, Zb, I4, I8, I16, Zh, Zj, Zv, Za]
def ZhW (n N D : Nat) (a : List Int) (x y k c0 c1 c2 c3 c4 b w g : Int) (v1 v2 v3 v4 v5 v6 v7 v8 v9 v10 v11 v12 v13 v14 v15 v16 v17 v18 v19 : Int) (h : List ME) : Nat → Nat × List Leaf
  | 0 => (9, .n n :: .l a :: .i x :: .i y :: .n N :: I16 v1 v2 v3 v4 v5 v6 v7 v8 v9 v10 v11 v12 v13 v14 v15 v16 (.i v17 :: .i v18 :: .i v19 :: .t h :: I16 k c0 c1 c2 c3 c4 (D : Int) b w g k c0 c1 c2 c3 c4 (I4 (D : Int) b w g [])))
  | 1 => (10, .n n :: .l a :: .i x :: .i y :: .n N :: I16 v1 v2 v3 v4 v5 v6 v7 v8 v9 v10 v11 v12 v13 v14 v15 v16 (.i v17 :: .i v18 :: .i v19 :: .t h :: I16 k c0 c1 c2 c3 c4 (D : Int) b w g k c0 c1 c2 c3 c4 (I16 (D : Int) b w g c0 c1 c2 c3 c4 0 0 0 0 (D : Int) b w [.n D, .i 0, .l (Ec.ring D b (fun _ => 0) 0)])))
  | _ => (14, .n n :: .l a :: .i x :: .i y :: .n N :: I16 v1 v2 v3 v4 v5 v6 v7 v8 v9 v10 v11 v12 v13 v14 v15 v16 (.i v17 :: .i v18 :: .i v19 :: .t h :: I16 k c0 c1 c2 c3 c4 (D : Int) b w g k c0 c1 c2 c3 c4 (I16 (D : Int) b w g c0 c1 c2 c3 c4 0 0 0 0 c0 c1 c2 (I8 c3 c4 0 0 0 0 (D : Int) b [.i w, .n D, .i 0, .l (Ec.ring D b (fun _ => 0) 0), .i (D : Int), .i b, .i w, .n D, .i 0, .l (Ec.ring D b (fun _ => 0) 0)]))))
theorem nin1_0 (n N D : Nat) (a : List Int) (x y k c0 c1 c2 c3 c4 b w g : Int) (v1 v2 v3 v4 v5 v6 v7 v8 v9 v10 v11 v12 v13 v14 v15 v16 v17 v18 v19 : Int) (h : List ME) (hf : Fi.Right c0 c1 c2 c3 c4) (he : Ec.RightE (D : Int) b w) : L9_0 (ZhW n N D a x y k c0 c1 c2 c3 c4 b w g v1 v2 v3 v4 v5 v6 v7 v8 v9 v10 v11 v12 v13 v14 v15 v16 v17 v18 v19 h 0) = some (4, (ZhW n N D a x y k c0 c1 c2 c3 c4 b w g v1 v2 v3 v4 v5 v6 v7 v8 v9 v10 v11 v12 v13 v14 v15 v16 v17 v18 v19 h 2).2) := by
  refine Zp (m := 18) (f := f9_0) (ZhW n N D a x y k c0 c1 c2 c3 c4 b w g v1 v2 v3 v4 v5 v6 v7 v8 v9 v10 v11 v12 v13 v14 v15 v16 v17 v18 v19 h) 2 (fun j hj => ?_) ?_ (by omega)
  · match j, hj with
    | 0, _ =>
      refine ⟨?_, by show 10 < 18; omega⟩
      simp -implicitDefEqProofs only [ZhW, f9_0, f9_0_9, asI_i, Zc, Zd, Zb, I4, I8, I16, Zh, Zj, Zv, Za, Fi.new_yes c0 c1 c2 c3 c4 hf, Ec.new_yes he (fun _ => 0), Zk, ZF]
    | 1, _ =>
      refine ⟨?_, by show 14 < 18; omega⟩
      simp -implicitDefEqProofs only [ZhW, f9_0, f9_0_10, asI_i, Zc, Zd, Zb, I4, I8, I16, Zh, Zj, Zv, Za, Fi.new_yes c0 c1 c2 c3 c4 hf, Ec.new_yes he (fun _ => 0), Zk, ZF]
  · simp -implicitDefEqProofs only [ZhW, f9_0, f9_0_14, asI_i, Zc, Zd, Zb, I4, I8, I16, Zh, Zj, Zv, Za]
def ZhX (n N : Nat) (a : List Int) (x y k c0 c1 c2 c3 c4 d b w g : Int) (v1 v2 v3 v4 v5 v6 v7 v8 v9 v10 v11 v12 v13 v14 v15 v16 v17 v18 v19 : Int) (h : List ME) : Nat → Nat × List Leaf
  | 0 => (9, .n n :: .l a :: .i x :: .i y :: .n N :: I16 v1 v2 v3 v4 v5 v6 v7 v8 v9 v10 v11 v12 v13 v14 v15 v16 (.i v17 :: .i v18 :: .i v19 :: .t h :: I16 k c0 c1 c2 c3 c4 d b w g k c0 c1 c2 c3 c4 (I4 d b w g [])))
  | 1 => (11, .n n :: .l a :: .i x :: .i y :: .n N :: I16 v1 v2 v3 v4 v5 v6 v7 v8 v9 v10 v11 v12 v13 v14 v15 v16 (.i v17 :: .i v18 :: .i v19 :: .t h :: I16 k c0 c1 c2 c3 c4 d b w g k c0 c1 c2 c3 c4 (I8 d b w g c0 c1 c2 c3 (I4 c4 0 0 0 [.i 0]))))
  | _ => (15, .n n :: .l a :: .i x :: .i y :: .n N :: I16 v1 v2 v3 v4 v5 v6 v7 v8 v9 v10 v11 v12 v13 v14 v15 v16 (.i v17 :: .i v18 :: .i v19 :: .t h :: I16 k c0 c1 c2 c3 c4 d b w g k c0 c1 c2 c3 c4 (I16 d b w g c0 c1 c2 c3 c4 0 0 0 0 c0 c1 c2 (I4 c3 c4 0 0 [.i 0, .i 0]))))
theorem nin1_1 (n N : Nat) (a : List Int) (x y k c0 c1 c2 c3 c4 d b w g : Int) (v1 v2 v3 v4 v5 v6 v7 v8 v9 v10 v11 v12 v13 v14 v15 v16 v17 v18 v19 : Int) (h : List ME) (hf : Fi.Right c0 c1 c2 c3 c4) (he : ¬ Ec.RightE d b w) : L9_0 (ZhX n N a x y k c0 c1 c2 c3 c4 d b w g v1 v2 v3 v4 v5 v6 v7 v8 v9 v10 v11 v12 v13 v14 v15 v16 v17 v18 v19 h 0) = some (5, (ZhX n N a x y k c0 c1 c2 c3 c4 d b w g v1 v2 v3 v4 v5 v6 v7 v8 v9 v10 v11 v12 v13 v14 v15 v16 v17 v18 v19 h 2).2) := by
  refine Zp (m := 18) (f := f9_0) (ZhX n N a x y k c0 c1 c2 c3 c4 d b w g v1 v2 v3 v4 v5 v6 v7 v8 v9 v10 v11 v12 v13 v14 v15 v16 v17 v18 v19 h) 2 (fun j hj => ?_) ?_ (by omega)
  · match j, hj with
    | 0, _ =>
      refine ⟨?_, by show 11 < 18; omega⟩
      simp -implicitDefEqProofs only [ZhX, f9_0, f9_0_9, asI_i, Zc, Zd, Zb, I4, I8, I16, Zh, Zj, Zv, Za, Fi.new_yes c0 c1 c2 c3 c4 hf, Zcd d b w he, Zk, ZF]
    | 1, _ =>
      refine ⟨?_, by show 15 < 18; omega⟩
      simp -implicitDefEqProofs only [ZhX, f9_0, f9_0_11, asI_i, Zc, Zd, Zb, I4, I8, I16, Zh, Zj, Zv, Za, Fi.new_yes c0 c1 c2 c3 c4 hf, Zcd d b w he, Zk, ZF]
  · simp -implicitDefEqProofs only [ZhX, f9_0, f9_0_15, asI_i, Zc, Zd, Zb, I4, I8, I16, Zh, Zj, Zv, Za]
def ZhY (n N D : Nat) (a : List Int) (x y k c0 c1 c2 c3 c4 b w g : Int) (v1 v2 v3 v4 v5 v6 v7 v8 v9 v10 v11 v12 v13 v14 v15 v16 v17 v18 v19 : Int) (h : List ME) : Nat → Nat × List Leaf
  | 0 => (9, .n n :: .l a :: .i x :: .i y :: .n N :: I16 v1 v2 v3 v4 v5 v6 v7 v8 v9 v10 v11 v12 v13 v14 v15 v16 (.i v17 :: .i v18 :: .i v19 :: .t h :: I16 k c0 c1 c2 c3 c4 (D : Int) b w g k c0 c1 c2 c3 c4 (I4 (D : Int) b w g [])))
  | 1 => (12, .n n :: .l a :: .i x :: .i y :: .n N :: I16 v1 v2 v3 v4 v5 v6 v7 v8 v9 v10 v11 v12 v13 v14 v15 v16 (.i v17 :: .i v18 :: .i v19 :: .t h :: I16 k c0 c1 c2 c3 c4 (D : Int) b w g k c0 c1 c2 c3 c4 (I4 (D : Int) b w g [.i (D : Int), .i b, .i w, .n D, .i 0, .l (Ec.ring D b (fun _ => 0) 0)])))
  | _ => (16, .n n :: .l a :: .i x :: .i y :: .n N :: I16 v1 v2 v3 v4 v5 v6 v7 v8 v9 v10 v11 v12 v13 v14 v15 v16 (.i v17 :: .i v18 :: .i v19 :: .t h :: I16 k c0 c1 c2 c3 c4 (D : Int) b w g k c0 c1 c2 c3 c4 (I4 (D : Int) b w g [.i (D : Int), .i b, .i w, .n D, .i 0, .l (Ec.ring D b (fun _ => 0) 0), .i (D : Int), .i b, .i w, .n D, .i 0, .l (Ec.ring D b (fun _ => 0) 0)])))
theorem nin1_2 (n N D : Nat) (a : List Int) (x y k c0 c1 c2 c3 c4 b w g : Int) (v1 v2 v3 v4 v5 v6 v7 v8 v9 v10 v11 v12 v13 v14 v15 v16 v17 v18 v19 : Int) (h : List ME) (hf : ¬ Fi.Right c0 c1 c2 c3 c4) (he : Ec.RightE (D : Int) b w) : L9_0 (ZhY n N D a x y k c0 c1 c2 c3 c4 b w g v1 v2 v3 v4 v5 v6 v7 v8 v9 v10 v11 v12 v13 v14 v15 v16 v17 v18 v19 h 0) = some (6, (ZhY n N D a x y k c0 c1 c2 c3 c4 b w g v1 v2 v3 v4 v5 v6 v7 v8 v9 v10 v11 v12 v13 v14 v15 v16 v17 v18 v19 h 2).2) := by
  refine Zp (m := 18) (f := f9_0) (ZhY n N D a x y k c0 c1 c2 c3 c4 b w g v1 v2 v3 v4 v5 v6 v7 v8 v9 v10 v11 v12 v13 v14 v15 v16 v17 v18 v19 h) 2 (fun j hj => ?_) ?_ (by omega)
  · match j, hj with
    | 0, _ =>
      refine ⟨?_, by show 12 < 18; omega⟩
      simp -implicitDefEqProofs only [ZhY, f9_0, f9_0_9, asI_i, Zc, Zd, Zb, I4, I8, I16, Zh, Zj, Zv, Za, Fi.new_no c0 c1 c2 c3 c4 hf, Ec.new_yes he (fun _ => 0), Zk, ZF]
    | 1, _ =>
      refine ⟨?_, by show 16 < 18; omega⟩
      simp -implicitDefEqProofs only [ZhY, f9_0, f9_0_12, asI_i, Zc, Zd, Zb, I4, I8, I16, Zh, Zj, Zv, Za, Fi.new_no c0 c1 c2 c3 c4 hf, Ec.new_yes he (fun _ => 0), Zk, ZF]
  · simp -implicitDefEqProofs only [ZhY, f9_0, f9_0_16, asI_i, Zc, Zd, Zb, I4, I8, I16, Zh, Zj, Zv, Za]
def ZhZ (n N : Nat) (a : List Int) (x y k c0 c1 c2 c3 c4 d b w g : Int) (v1 v2 v3 v4 v5 v6 v7 v8 v9 v10 v11 v12 v13 v14 v15 v16 v17 v18 v19 : Int) (h : List ME) : Nat → Nat × List Leaf
  | 0 => (9, .n n :: .l a :: .i x :: .i y :: .n N :: I16 v1 v2 v3 v4 v5 v6 v7 v8 v9 v10 v11 v12 v13 v14 v15 v16 (.i v17 :: .i v18 :: .i v19 :: .t h :: I16 k c0 c1 c2 c3 c4 d b w g k c0 c1 c2 c3 c4 (I4 d b w g [])))
  | 1 => (13, .n n :: .l a :: .i x :: .i y :: .n N :: I16 v1 v2 v3 v4 v5 v6 v7 v8 v9 v10 v11 v12 v13 v14 v15 v16 (.i v17 :: .i v18 :: .i v19 :: .t h :: I16 k c0 c1 c2 c3 c4 d b w g k c0 c1 c2 c3 c4 (I4 d b w g [])))
  | _ => (17, .n n :: .l a :: .i x :: .i y :: .n N :: I16 v1 v2 v3 v4 v5 v6 v7 v8 v9 v10 v11 v12 v13 v14 v15 v16 (.i v17 :: .i v18 :: .i v19 :: .t h :: I16 k c0 c1 c2 c3 c4 d b w g k c0 c1 c2 c3 c4 (I4 d b w g [])))
theorem nin1_3 (n N : Nat) (a : List Int) (x y k c0 c1 c2 c3 c4 d b w g : Int) (v1 v2 v3 v4 v5 v6 v7 v8 v9 v10 v11 v12 v13 v14 v15 v16 v17 v18 v19 : Int) (h : List ME) (hf : ¬ Fi.Right c0 c1 c2 c3 c4) (he : ¬ Ec.RightE d b w) : L9_0 (ZhZ n N a x y k c0 c1 c2 c3 c4 d b w g v1 v2 v3 v4 v5 v6 v7 v8 v9 v10 v11 v12 v13 v14 v15 v16 v17 v18 v19 h 0) = some (7, (ZhZ n N a x y k c0 c1 c2 c3 c4 d b w g v1 v2 v3 v4 v5 v6 v7 v8 v9 v10 v11 v12 v13 v14 v15 v16 v17 v18 v19 h 2).2) := by
  refine Zp (m := 18) (f := f9_0) (ZhZ n N a x y k c0 c1 c2 c3 c4 d b w g v1 v2 v3 v4 v5 v6 v7 v8 v9 v10 v11 v12 v13 v14 v15 v16 v17 v18 v19 h) 2 (fun j hj => ?_) ?_ (by omega)
  · match j, hj with
    | 0, _ =>
      refine ⟨?_, by show 13 < 18; omega⟩
      simp -implicitDefEqProofs only [ZhZ, f9_0, f9_0_9, asI_i, Zc, Zd, Zb, I4, I8, I16, Zh, Zj, Zv, Za, Fi.new_no c0 c1 c2 c3 c4 hf, Zcd d b w he, Zk, ZF]
    | 1, _ =>
      refine ⟨?_, by show 17 < 18; omega⟩
      simp -implicitDefEqProofs only [ZhZ, f9_0, f9_0_13, asI_i, Zc, Zd, Zb, I4, I8, I16, Zh, Zj, Zv, Za, Fi.new_no c0 c1 c2 c3 c4 hf, Zcd d b w he, Zk, ZF]
  · simp -implicitDefEqProofs only [ZhZ, f9_0, f9_0_17, asI_i, Zc, Zd, Zb, I4, I8, I16, Zh, Zj, Zv, Za]
theorem ZnQ (a : List Int) (k D : Nat) (hf : (ptAt a k).rf) (he : (ptAt a k).re) (hd : a.getD (k * 10 + 6) 0 = (D : Int)) : (sg0 a k).toS = [(false, .agg [.int .i64 (a.getD (k * 10) 0), .int .i64 (a.getD (k * 10 + 1) 0), .int .i64 (a.getD (k * 10 + 2) 0), .int .i64 (a.getD (k * 10 + 3) 0), .int .i64 (a.getD (k * 10 + 4) 0), .int .i64 (a.getD (k * 10 + 5) 0), .int .i64 ((D : Int)), .int .i64 (a.getD (k * 10 + 7) 0), .int .i64 (a.getD (k * 10 + 8) 0), .int .i64 (a.getD (k * 10 + 9) 0), .ptr 1 0, .ptr 2 0, .ptr 3 0, .ptr 5 0]), (true, .ints .i64 [a.getD (k * 10 + 1) 0, a.getD (k * 10 + 2) 0, a.getD (k * 10 + 3) 0, a.getD (k * 10 + 4) 0, a.getD (k * 10 + 5) 0, 0, 0, 0, 0]), (true, .ints .i64 [a.getD (k * 10 + 1) 0, a.getD (k * 10 + 2) 0, a.getD (k * 10 + 3) 0, a.getD (k * 10 + 4) 0, a.getD (k * 10 + 5) 0, 0, 0, 0, 0]), (true, .agg [.int .i64 (D : Int), .int .i64 (a.getD (k * 10 + 7) 0), .int .i64 (a.getD (k * 10 + 8) 0), .slice 4 0 D 1, .int .i64 0]), (true, .ints .i64 (Ec.ring D (a.getD (k * 10 + 7) 0) (fun _ => 0) 0)), (true, .agg [.int .i64 (D : Int), .int .i64 (a.getD (k * 10 + 7) 0), .int .i64 (a.getD (k * 10 + 8) 0), .slice 6 0 D 1, .int .i64 0]), (true, .ints .i64 (Ec.ring D (a.getD (k * 10 + 7) 0) (fun _ => 0) 0))] := by
  have e : (sg0 a k).toS = _ := (if_pos hf).trans (if_pos he)
  rw [e]
  simp only [sg0, ptAt, hd, Int.toNat_natCast, Nat.zero_mod]
  try rfl
theorem ZnR (a : List Int) (k : Nat) (hf : (ptAt a k).rf) (he : ¬ (ptAt a k).re) : (sg0 a k).toS = [(false, .agg [.int .i64 (a.getD (k * 10) 0), .int .i64 (a.getD (k * 10 + 1) 0), .int .i64 (a.getD (k * 10 + 2) 0), .int .i64 (a.getD (k * 10 + 3) 0), .int .i64 (a.getD (k * 10 + 4) 0), .int .i64 (a.getD (k * 10 + 5) 0), .int .i64 (a.getD (k * 10 + 6) 0), .int .i64 (a.getD (k * 10 + 7) 0), .int .i64 (a.getD (k * 10 + 8) 0), .int .i64 (a.getD (k * 10 + 9) 0), .ptr 1 0, .ptr 2 0, .nilp, .nilp]), (true, .ints .i64 [a.getD (k * 10 + 1) 0, a.getD (k * 10 + 2) 0, a.getD (k * 10 + 3) 0, a.getD (k * 10 + 4) 0, a.getD (k * 10 + 5) 0, 0, 0, 0, 0]), (true, .ints .i64 [a.getD (k * 10 + 1) 0, a.getD (k * 10 + 2) 0, a.getD (k * 10 + 3) 0, a.getD (k * 10 + 4) 0, a.getD (k * 10 + 5) 0, 0, 0, 0, 0])] := by
  have e : (sg0 a k).toS = _ := (if_pos hf).trans (if_neg he)
  rw [e]
  simp only [sg0, ptAt, Int.toNat_natCast, Nat.zero_mod]
  try rfl
theorem ZnS (a : List Int) (k D : Nat) (hf : ¬ (ptAt a k).rf) (he : (ptAt a k).re) (hd : a.getD (k * 10 + 6) 0 = (D : Int)) : (sg0 a k).toS = [(false, .agg [.int .i64 (a.getD (k * 10) 0), .int .i64 (a.getD (k * 10 + 1) 0), .int .i64 (a.getD (k * 10 + 2) 0), .int .i64 (a.getD (k * 10 + 3) 0), .int .i64 (a.getD (k * 10 + 4) 0), .int .i64 (a.getD (k * 10 + 5) 0), .int .i64 ((D : Int)), .int .i64 (a.getD (k * 10 + 7) 0), .int .i64 (a.getD (k * 10 + 8) 0), .int .i64 (a.getD (k * 10 + 9) 0), .nilp, .nilp, .ptr 1 0, .ptr 3 0]), (true, .agg [.int .i64 (D : Int), .int .i64 (a.getD (k * 10 + 7) 0), .int .i64 (a.getD (k * 10 + 8) 0), .slice 2 0 D 1, .int .i64 0]), (true, .ints .i64 (Ec.ring D (a.getD (k * 10 + 7) 0) (fun _ => 0) 0)), (true, .agg [.int .i64 (D : Int), .int .i64 (a.getD (k * 10 + 7) 0), .int .i64 (a.getD (k * 10 + 8) 0), .slice 4 0 D 1, .int .i64 0]), (true, .ints .i64 (Ec.ring D (a.getD (k * 10 + 7) 0) (fun _ => 0) 0))] := by
  have e : (sg0 a k).toS = _ := (if_neg hf).trans (if_pos he)
  rw [e]
  simp only [sg0, ptAt, hd, Int.toNat_natCast, Nat.zero_mod]
  try rfl
theorem ZnT (a : List Int) (k : Nat) (hf : ¬ (ptAt a k).rf) (he : ¬ (ptAt a k).re) : (sg0 a k).toS = [(false, .agg [.int .i64 (a.getD (k * 10) 0), .int .i64 (a.getD (k * 10 + 1) 0), .int .i64 (a.getD (k * 10 + 2) 0), .int .i64 (a.getD (k * 10 + 3) 0), .int .i64 (a.getD (k * 10 + 4) 0), .int .i64 (a.getD (k * 10 + 5) 0), .int .i64 (a.getD (k * 10 + 6) 0), .int .i64 (a.getD (k * 10 + 7) 0), .int .i64 (a.getD (k * 10 + 8) 0), .int .i64 (a.getD (k * 10 + 9) 0), .nilp, .nilp, .nilp, .nilp])] := by
  have e : (sg0 a k).toS = _ := (if_neg hf).trans (if_neg he)
  rw [e]
  simp only [sg0, ptAt, Int.toNat_natCast, Nat.zero_mod]
  try rfl
def nwS (n : Nat) (a : List Int) : Nat → Nat × List Leaf
  | 0 => (0, .n n :: .l a :: I16 n (0 : Nat) 0 0 0 0 0 0 0 0 0 0 0 0 0 0 (I4 0 0 0 0 [.i 0]))
  | k + 1 => (1, .n n :: .l a :: .i n :: .i (k + 1 : Nat) :: .n (k + 1) :: I16 0 0 0 0 0 0 0 0 0 0 0 0 0 0 0 0 [.i 0, .i 0, .i 0, .t ((ZL a (k + 1)).map Sg.toS)])
theorem ZiX {a : List Int} {k : Nat} (he : (ptAt a k).re) : ∃ D : Nat, a.getD (k * 10 + 6) 0 = (D : Int) := ⟨(a.getD (k * 10 + 6) 0).toNat, by have h : Ec.RightE (a.getD (k * 10 + 6) 0) (a.getD (k * 10 + 7) 0) (a.getD (k * 10 + 8) 0) := he; unfold Ec.RightE at h; omega⟩
theorem Zdm (a : List Int) (k : Nat) : g10 (0, I8 (a.getD (k * 10) 0) (a.getD (k * 10 + 1) 0) (a.getD (k * 10 + 2) 0) (a.getD (k * 10 + 3) 0) (a.getD (k * 10 + 4) 0) (a.getD (k * 10 + 5) 0) (a.getD (k * 10 + 6) 0) (a.getD (k * 10 + 7) 0) [.i (a.getD (k * 10 + 8) 0), .i (a.getD (k * 10 + 9) 0)]) = some (0, [.b (decide (ptAt a k).ok)]) := Zlq (a.getD (k * 10) 0) (a.getD (k * 10 + 1) 0) (a.getD (k * 10 + 2) 0) (a.getD (k * 10 + 3) 0) (a.getD (k * 10 + 4) 0) (a.getD (k * 10 + 5) 0) (a.getD (k * 10 + 6) 0) (a.getD (k * 10 + 7) 0) (a.getD (k * 10 + 8) 0) (a.getD (k * 10 + 9) 0)
theorem Zls {n k : Nat} {a : List Int} (hk : k < n) (hn : n ≤ 16) (ha : a.length = n * 10) (ho : (ptAt a k).ok) : f9_1 (nwS n a k) = some (nwS n a (k + 1)) := by
  have w2 : IntKind.i64.wrap ((k : Int) + 1) = ((k + 1 : Nat) : Int) := Z6 (n := k + 1) (by omega)
  have i1 : (k : Int) < n := by omega
  have i2 : (0 : Int) ≤ k ∧ (k : Int) < n := by omega
  have i3 : k * 10 + 10 ≤ a.length := by omega
  have hr := Zdm a k
  rw [decide_eq_true ho] at hr
  match k, hk, w2, i1, i2, i3, hr, ho with
  | 0, hk, w2, i1, i2, i3, hr, ho =>
    have e : (ZL a (0 + 1)).map Sg.toS = [(sg0 a 0).toS] := rfl
    by_cases hf : (ptAt a 0).rf <;> by_cases he : (ptAt a 0).re
    · obtain ⟨D, hd⟩ := ZiX he
      have hts := ZnQ a 0 D hf he hd
      have he2 : Ec.RightE (D : Int) (a.getD (0 * 10 + 7) 0) (a.getD (0 * 10 + 8) 0) := by rw [← hd]; exact he
      simp -implicitDefEqProofs only [hd] at hr
      have hi := nin0_0 n D a n (0 : Nat) (a.getD (0 * 10) 0) (a.getD (0 * 10 + 1) 0) (a.getD (0 * 10 + 2) 0) (a.getD (0 * 10 + 3) 0) (a.getD (0 * 10 + 4) 0) (a.getD (0 * 10 + 5) 0)  (a.getD (0 * 10 + 7) 0) (a.getD (0 * 10 + 8) 0) (a.getD (0 * 10 + 9) 0) 0 0 0 0 0 0 0 0 0 0 0 0 0 0 0 0 0 0 0 hf he2
      simp only [ZhS] at hi
      simp -implicitDefEqProofs only [nwS, f9_1, f9_1_0, asI_i, Zc, Zd, Zb, I4, I8, I16, Zh, Zj, Zv, ZQ, Za, Bool.cond_decide, if_pos i1, if_pos i2, if_pos i3, Int.toNat_natCast, hd, hr, Zk, Bool.not_true, cond_false, hi, ZF, Z0, Zag, Zbw, ZdR, ZdS, ZdU, w2, e, hts]
      try rfl
    · have hts := ZnR a 0 hf he
      have he2 : ¬ Ec.RightE (a.getD (0 * 10 + 6) 0) (a.getD (0 * 10 + 7) 0) (a.getD (0 * 10 + 8) 0) := he
      have hi := nin0_1 n a n (0 : Nat) (a.getD (0 * 10) 0) (a.getD (0 * 10 + 1) 0) (a.getD (0 * 10 + 2) 0) (a.getD (0 * 10 + 3) 0) (a.getD (0 * 10 + 4) 0) (a.getD (0 * 10 + 5) 0) (a.getD (0 * 10 + 6) 0) (a.getD (0 * 10 + 7) 0) (a.getD (0 * 10 + 8) 0) (a.getD (0 * 10 + 9) 0) 0 0 0 0 0 0 0 0 0 0 0 0 0 0 0 0 0 0 0 hf he2
      simp only [ZhT] at hi
      simp -implicitDefEqProofs only [nwS, f9_1, f9_1_0, asI_i, Zc, Zd, Zb, I4, I8, I16, Zh, Zj, Zv, ZQ, Za, Bool.cond_decide, if_pos i1, if_pos i2, if_pos i3, Int.toNat_natCast, hr, Zk, Bool.not_true, cond_false, hi, ZF, Z0, Zag, Zbw, ZdR, ZdS, ZdU, w2, e, hts]
      try rfl
    · obtain ⟨D, hd⟩ := ZiX he
      have hts := ZnS a 0 D hf he hd
      have he2 : Ec.RightE (D : Int) (a.getD (0 * 10 + 7) 0) (a.getD (0 * 10 + 8) 0) := by rw [← hd]; exact he
      simp -implicitDefEqProofs only [hd] at hr
      have hi := nin0_2 n D a n (0 : Nat) (a.getD (0 * 10) 0) (a.getD (0 * 10 + 1) 0) (a.getD (0 * 10 + 2) 0) (a.getD (0 * 10 + 3) 0) (a.getD (0 * 10 + 4) 0) (a.getD (0 * 10 + 5) 0)  (a.getD (0 * 10 + 7) 0) (a.getD (0 * 10 + 8) 0) (a.getD (0 * 10 + 9) 0) 0 0 0 0 0 0 0 0 0 0 0 0 0 0 0 0 0 0 0 hf he2
      simp only [ZhU] at hi
      simp -implicitDefEqProofs only [nwS, f9_1, f9_1_0, asI_i, Zc, Zd, Zb, I4, I8, I16, Zh, Zj, Zv, ZQ, Za, Bool.cond_decide, if_pos i1, if_pos i2, if_pos i3, Int.toNat_natCast, hd, hr, Zk, Bool.not_true, cond_false, hi, ZF, Z0, Zag, Zbw, ZdR, ZdS, ZdU, w2, e, hts]
      try rfl
    · have hts := ZnT a 0 hf he
      have he2 : ¬ Ec.RightE (a.getD (0 * 10 + 6) 0) (a.getD (0 * 10 + 7) 0) (a.getD (0 * 10 + 8) 0) := he
      have hi := nin0_3 n a n (0 : Nat) (a.getD (0 * 10) 0) (a.getD (0 * 10 + 1) 0) (a.getD (0 * 10 + 2) 0) (a.getD (0 * 10 + 3) 0) (a.getD (0 * 10 + 4) 0) (a.getD (0 * 10 + 5) 0) (a.getD (0 * 10 + 6) 0) (a.getD (0 * 10 + 7) 0) (a.getD (0 * 10 + 8) 0) (a.getD (0 * 10 + 9) 0) 0 0 0 0 0 0 0 0 0 0 0 0 0 0 0 0 0 0 0 hf he2
      simp only [ZhV] at hi
      simp -implicitDefEqProofs only [nwS, f9_1, f9_1_0, asI_i, Zc, Zd, Zb, I4, I8, I16, Zh, Zj, Zv, ZQ, Za, Bool.cond_decide, if_pos i1, if_pos i2, if_pos i3, Int.toNat_natCast, hr, Zk, Bool.not_true, cond_false, hi, ZF, Z0, Zag, Zbw, ZdR, ZdS, ZdU, w2, e, hts]
      try rfl
  | k + 1, hk, w2, i1, i2, i3, hr, ho =>
    have c1 : k + 1 = ((ZL a (k + 1)).map Sg.toS).length := by rw [List.length_map, Zdl]
    have c2 : (k + 1 + 1) * 112 ≤ 70368744177664 := by omega
    have e : (ZL a (k + 1 + 1)).map Sg.toS = (ZL a (k + 1)).map Sg.toS ++ [(sg0 a (k + 1)).toS] := Zhl a (k + 1) Sg.toS
    by_cases hf : (ptAt a (k + 1)).rf <;> by_cases he : (ptAt a (k + 1)).re
    · obtain ⟨D, hd⟩ := ZiX he
      have hts := ZnQ a (k + 1) D hf he hd
      have he2 : Ec.RightE (D : Int) (a.getD ((k + 1) * 10 + 7) 0) (a.getD ((k + 1) * 10 + 8) 0) := by rw [← hd]; exact he
      simp -implicitDefEqProofs only [hd] at hr
      have hi := nin1_0 n (k + 1) D a n (k + 1 : Nat) (a.getD ((k + 1) * 10) 0) (a.getD ((k + 1) * 10 + 1) 0) (a.getD ((k + 1) * 10 + 2) 0) (a.getD ((k + 1) * 10 + 3) 0) (a.getD ((k + 1) * 10 + 4) 0) (a.getD ((k + 1) * 10 + 5) 0)  (a.getD ((k + 1) * 10 + 7) 0) (a.getD ((k + 1) * 10 + 8) 0) (a.getD ((k + 1) * 10 + 9) 0) 0 0 0 0 0 0 0 0 0 0 0 0 0 0 0 0 0 0 0 ((ZL a (k + 1)).map Sg.toS) hf he2
      simp only [ZhW] at hi
      simp -implicitDefEqProofs only [nwS, f9_1, f9_1_1, asI_i, Zc, Zd, Zb, I4, I8, I16, Zh, Zj, Zv, ZQ, Za, Bool.cond_decide, if_pos i1, if_pos i2, if_pos i3, Int.toNat_natCast, hd, hr, Zk, Bool.not_true, cond_false, hi, ZF, Z0, Zag, Zbw, ZdR, ZdS, ZdU, w2, if_pos c1, if_pos c2, e, hts]
      try rfl
    · have hts := ZnR a (k + 1) hf he
      have he2 : ¬ Ec.RightE (a.getD ((k + 1) * 10 + 6) 0) (a.getD ((k + 1) * 10 + 7) 0) (a.getD ((k + 1) * 10 + 8) 0) := he
      have hi := nin1_1 n (k + 1) a n (k + 1 : Nat) (a.getD ((k + 1) * 10) 0) (a.getD ((k + 1) * 10 + 1) 0) (a.getD ((k + 1) * 10 + 2) 0) (a.getD ((k + 1) * 10 + 3) 0) (a.getD ((k + 1) * 10 + 4) 0) (a.getD ((k + 1) * 10 + 5) 0) (a.getD ((k + 1) * 10 + 6) 0) (a.getD ((k + 1) * 10 + 7) 0) (a.getD ((k + 1) * 10 + 8) 0) (a.getD ((k + 1) * 10 + 9) 0) 0 0 0 0 0 0 0 0 0 0 0 0 0 0 0 0 0 0 0 ((ZL a (k + 1)).map Sg.toS) hf he2
      simp only [ZhX] at hi
      simp -implicitDefEqProofs only [nwS, f9_1, f9_1_1, asI_i, Zc, Zd, Zb, I4, I8, I16, Zh, Zj, Zv, ZQ, Za, Bool.cond_decide, if_pos i1, if_pos i2, if_pos i3, Int.toNat_natCast, hr, Zk, Bool.not_true, cond_false, hi, ZF, Z0, Zag, Zbw, ZdR, ZdS, ZdU, w2, if_pos c1, if_pos c2, e, hts]
      try rfl
    · obtain ⟨D, hd⟩ := ZiX he
      have hts := ZnS a (k + 1) D hf he hd
      have he2 : Ec.RightE (D : Int) (a.getD ((k + 1) * 10 + 7) 0) (a.getD ((k + 1) * 10 + 8) 0) := by rw [← hd]; exact he
      simp -implicitDefEqProofs only [hd] at hr
      have hi := nin1_2 n (k + 1) D a n (k + 1 : Nat) (a.getD ((k + 1) * 10) 0) (a.getD ((k + 1) * 10 + 1) 0) (a.getD ((k + 1) * 10 + 2) 0) (a.getD ((k + 1) * 10 + 3) 0) (a.getD ((k + 1) * 10 + 4) 0) (a.getD ((k + 1) * 10 + 5) 0)  (a.getD ((k + 1) * 10 + 7) 0) (a.getD ((k + 1) * 10 + 8) 0) (a.getD ((k + 1) * 10 + 9) 0) 0 0 0 0 0 0 0 0 0 0 0 0 0 0 0 0 0 0 0 ((ZL a (k + 1)).map Sg.toS) hf he2
      simp only [ZhY] at hi
      simp -implicitDefEqProofs only [nwS, f9_1, f9_1_1, asI_i, Zc, Zd, Zb, I4, I8, I16, Zh, Zj, Zv, ZQ, Za, Bool.cond_decide, if_pos i1, if_pos i2, if_pos i3, Int.toNat_natCast, hd, hr, Zk, Bool.not_true, cond_false, hi, ZF, Z0, Zag, Zbw, ZdR, ZdS, ZdU, w2, if_pos c1, if_pos c2, e, hts]
      try rfl
    · have hts := ZnT a (k + 1) hf he
      have he2 : ¬ Ec.RightE (a.getD ((k + 1) * 10 + 6) 0) (a.getD ((k + 1) * 10 + 7) 0) (a.getD ((k + 1) * 10 + 8) 0) := he
      have hi := nin1_3 n (k + 1) a n (k + 1 : Nat) (a.getD ((k + 1) * 10) 0) (a.getD ((k + 1) * 10 + 1) 0) (a.getD ((k + 1) * 10 + 2) 0) (a.getD ((k + 1) * 10 + 3) 0) (a.getD ((k + 1) * 10 + 4) 0) (a.getD ((k + 1) * 10 + 5) 0) (a.getD ((k + 1) * 10 + 6) 0) (a.getD ((k + 1) * 10 + 7) 0) (a.getD ((k + 1) * 10 + 8) 0) (a.getD ((k + 1) * 10 + 9) 0) 0 0 0 0 0 0 0 0 0 0 0 0 0 0 0 0 0 0 0 ((ZL a (k + 1)).map Sg.toS) hf he2
      simp only [ZhZ] at hi
      simp -implicitDefEqProofs only [nwS, f9_1, f9_1_1, asI_i, Zc, Zd, Zb, I4, I8, I16, Zh, Zj, Zv, ZQ, Za, Bool.cond_decide, if_pos i1, if_pos i2, if_pos i3, Int.toNat_natCast, hr, Zk, Bool.not_true, cond_false, hi, ZF, Z0, Zag, Zbw, ZdR, ZdS, ZdU, w2, if_pos c1, if_pos c2, e, hts]
      try rfl
theorem ZnU {n k : Nat} {a : List Int} (hk : k < n) (hn : n ≤ 16) (ha : a.length = n * 10) (ho : ¬ (ptAt a k).ok) : f9_1 (nwS n a k) = some (2 + (if k = 0 then 1 else 3), .i 1 :: (if k = 0 then (I16 0 0 0 0 0 0 0 0 0 0 0 0 0 0 0 0 (I8 0 0 0 (a.getD (k * 10) 0) (a.getD (k * 10 + 1) 0) (a.getD (k * 10 + 2) 0) (a.getD (k * 10 + 3) 0) (a.getD (k * 10 + 4) 0) (I4 (a.getD (k * 10 + 5) 0) (a.getD (k * 10 + 6) 0) (a.getD (k * 10 + 7) 0) (a.getD (k * 10 + 8) 0) [.i (a.getD (k * 10 + 9) 0)]))) else (.n k :: I16 0 0 0 0 0 0 0 0 0 0 0 0 0 0 0 0 (.i 0 :: .i 0 :: .i 0 :: .t ((ZL a k).map Sg.toS) :: I8 (a.getD (k * 10) 0) (a.getD (k * 10 + 1) 0) (a.getD (k * 10 + 2) 0) (a.getD (k * 10 + 3) 0) (a.getD (k * 10 + 4) 0) (a.getD (k * 10 + 5) 0) (a.getD (k * 10 + 6) 0) (a.getD (k * 10 + 7) 0) [.i (a.getD (k * 10 + 8) 0), .i (a.getD (k * 10 + 9) 0)])))) := by
  have i1 : (k : Int) < n := by omega
  have i2 : (0 : Int) ≤ k ∧ (k : Int) < n := by omega
  have i3 : k * 10 + 10 ≤ a.length := by omega
  have hr := Zdm a k
  rw [decide_eq_false ho] at hr
  match k, hk, i1, i2, i3, hr, ho with
  | 0, hk, i1, i2, i3, hr, ho =>
    rw [if_pos rfl, if_pos rfl]
    simp -implicitDefEqProofs only [nwS, f9_1, f9_1_0, asI_i, Zc, Zd, Zb, I4, I8, I16, Zh, Zj, Zv, ZQ, Za, Bool.cond_decide, if_pos i1, if_pos i2, if_pos i3, Int.toNat_natCast, hr, Zk, Bool.not_false, cond_true]
  | k + 1, hk, i1, i2, i3, hr, ho =>
    rw [if_neg (Nat.succ_ne_zero k), if_neg (Nat.succ_ne_zero k)]
    simp -implicitDefEqProofs only [nwS, f9_1, f9_1_1, asI_i, Zc, Zd, Zb, I4, I8, I16, Zh, Zj, Zv, ZQ, Za, Bool.cond_decide, if_pos i1, if_pos i2, if_pos i3, Int.toNat_natCast, hr, Zk, Bool.not_false, cond_true]
theorem ZnV (n : Nat) (a : List Int) (k : Nat) : (nwS n a k).1 < 2 := by
  match k with
  | 0 => show 0 < 2; omega
  | k + 1 => show 1 < 2; omega
theorem Zmh {n : Nat} (hn : 16 < n) (a : List Int) : g9 (0, [.n n, .l a]) = some (0, [.i 6]) := by
  simp -implicitDefEqProofs only [g9, g9_0, asI_i, Zc, Zd, Zb, I4, I8, I16, Zh, Zj, Za, Bool.cond_decide, if_pos (show (16 : Int) < n by omega)]
theorem ZnW {n : Nat} (hn : n ≤ 16) {a : List Int} (ha : a.length = n * 10) (ho : ∀ k, k < n → (ptAt a k).ok) : g9 (0, [.n n, .l a]) = if n = 0 then some (1, I16 0 0 0 0 0 0 0 0 0 0 0 0 0 0 0 0 (I4 0 0 0 0 [])) else some (2, .i 0 :: .n n :: I16 0 0 0 0 0 0 0 0 0 0 0 0 0 0 0 0 [.i 0, .i 0, .i 0, .t ((ZL a n).map Sg.toS)]) := by
  have hL : L9_1 (nwS n a 0) = if n = 0 then some (0, I16 0 0 0 0 0 0 0 0 0 0 0 0 0 0 0 0 [.i 0, .i 0, .i 0]) else some (2, .n n :: I16 0 0 0 0 0 0 0 0 0 0 0 0 0 0 0 0 [.i 0, .i 0, .i 0, .t ((ZL a n).map Sg.toS)]) := by
    by_cases h0 : n = 0
    · subst h0
      rw [if_pos rfl]
      refine Zp (m := 2) (f := f9_1) (nwS 0 a) 0 (fun k hk => absurd hk (Nat.not_lt_zero _)) ?_ (by omega)
      simp -implicitDefEqProofs only [nwS, f9_1, f9_1_0, asI_i, Zc, Zd, Zb, I4, I8, I16, Zh, Zj, Za, Bool.cond_decide, if_neg (Int.lt_irrefl _)]
    · rw [if_neg h0]
      obtain ⟨q, rfl⟩ : ∃ q, n = q + 1 := ⟨n - 1, by omega⟩
      refine Zp (m := 2) (f := f9_1) (nwS (q + 1) a) (q + 1) (fun k hk => ⟨Zls hk hn ha (ho k hk), ZnV _ _ _⟩) ?_ (by omega)
      simp -implicitDefEqProofs only [nwS, f9_1, f9_1_1, asI_i, Zc, Zd, Zb, I4, I8, I16, Zh, Zj, Zv, Za, Bool.cond_decide, if_neg (Int.lt_irrefl _)]
  replace hL : L9_1 (0, .n n :: .l a :: I16 n 0 0 0 0 0 0 0 0 0 0 0 0 0 0 0 (I4 0 0 0 0 [.i 0])) = if n = 0 then some (0, I16 0 0 0 0 0 0 0 0 0 0 0 0 0 0 0 0 [.i 0, .i 0, .i 0]) else some (2, .n n :: I16 0 0 0 0 0 0 0 0 0 0 0 0 0 0 0 0 [.i 0, .i 0, .i 0, .t ((ZL a n).map Sg.toS)]) := hL
  simp -implicitDefEqProofs only [g9, g9_0, asI_i, Zc, Zd, Zb, I4, I8, I16, Zh, Zj, Zv, Za, Bool.cond_decide, if_neg (show ¬ (16 : Int) < n by omega), hL]
  by_cases h0 : n = 0
  · simp -implicitDefEqProofs only [if_pos h0, Zk, asI_i, Zc, Zd, Zb, I4, I8, I16, Za]
  · simp -implicitDefEqProofs only [if_neg h0, Z0, asI_i, Zc, Zd, Zb, I4, I8, I16, Zh, Zv, Za]
theorem Znf {n j : Nat} (hn : n ≤ 16) {a : List Int} (ha : a.length = n * 10) (hj : j < n) (ho : ∀ k, k < j → (ptAt a k).ok) (hb : ¬ (ptAt a j).ok) : g9 (0, [.n n, .l a]) = some (0, [.i 1]) := by
  have hL : L9_1 (nwS n a 0) = some ((if j = 0 then 1 else 3), .i 1 :: (if j = 0 then (I16 0 0 0 0 0 0 0 0 0 0 0 0 0 0 0 0 (I8 0 0 0 (a.getD (j * 10) 0) (a.getD (j * 10 + 1) 0) (a.getD (j * 10 + 2) 0) (a.getD (j * 10 + 3) 0) (a.getD (j * 10 + 4) 0) (I4 (a.getD (j * 10 + 5) 0) (a.getD (j * 10 + 6) 0) (a.getD (j * 10 + 7) 0) (a.getD (j * 10 + 8) 0) [.i (a.getD (j * 10 + 9) 0)]))) else (.n j :: I16 0 0 0 0 0 0 0 0 0 0 0 0 0 0 0 0 (.i 0 :: .i 0 :: .i 0 :: .t ((ZL a j).map Sg.toS) :: I8 (a.getD (j * 10) 0) (a.getD (j * 10 + 1) 0) (a.getD (j * 10 + 2) 0) (a.getD (j * 10 + 3) 0) (a.getD (j * 10 + 4) 0) (a.getD (j * 10 + 5) 0) (a.getD (j * 10 + 6) 0) (a.getD (j * 10 + 7) 0) [.i (a.getD (j * 10 + 8) 0), .i (a.getD (j * 10 + 9) 0)])))) :=
    Zp (m := 2) (f := f9_1) (nwS n a) j (fun k hk => ⟨Zls (by omega) hn ha (ho k hk), ZnV _ _ _⟩) (ZnU hj hn ha hb) (by omega)
  replace hL : L9_1 (0, .n n :: .l a :: I16 n 0 0 0 0 0 0 0 0 0 0 0 0 0 0 0 (I4 0 0 0 0 [.i 0])) = _ := hL
  simp -implicitDefEqProofs only [g9, g9_0, asI_i, Zc, Zd, Zb, I4, I8, I16, Zh, Zj, Zv, Za, Bool.cond_decide, if_neg (show ¬ (16 : Int) < n by omega), hL]
  by_cases h0 : j = 0
  · simp -implicitDefEqProofs only [if_pos h0, ZF, asI_i, Zc, Zd, Zb, I4, I8, I16, Za]
  · simp -implicitDefEqProofs only [if_neg h0, Zag, asI_i, Zc, Zd, Zb, I4, I8, I16, Zh, Zv, Za]
end Go.Proofs.Ytlbfafbhflblcaa
