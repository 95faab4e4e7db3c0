/-
  The law of how many bits any steps need. Conditions: none.
-/
import Derived.Test.YtmankoejlflhmaaWidths
import Derived.Test.YtmankoejlflhmaaQval
namespace Go.Proofs.Ytmankoejlflhmaa
open Go Go.Sx
set_option maxRecDepth 100000
set_option linter.unusedVariables false
attribute [local simp] asI_i asB_b asL_l asN_n asS_s asE_nil altK_none altK_0 altK_1 altK_2 altK_3 optK_some optK_none Bool.cond_decide Bool.cond_not Int.toNat_natCast
set_option linter.unusedSimpArgs false
def wq (q : List Int) (k : Nat) : Nat := szV (q.getD k 0)
theorem widths15 (q : List Int) (hq : q.length = 16) (hr : ∀ k, -9223372036854775808 ≤ q.getD k 0 ∧ q.getD k 0 ≤ 9223372036854775807) : g15 (0, [.l q]) = some (0, [.l (Ms (wq q) 16)]) := by
  have ht : List.take 16 q = q := List.take_of_length_le (by omega)
  have hl : L15_0 (0, [.l q, .i 0, .l q, .i 0, .i 0, .i 0, .i 0, .l [0, 0, 0, 0]]) = some (0, [.l q, .i 0, .i 0, .i 0, .i 0, .l (Ms (wq q) 16)]) := by
    refine loop1_run (fun k => [.l q, .i k, .l q, .i 0, .i 0, .i 0, .i 0, .l (Ms (wq q) k)]) 16 (fun k hk => ?_) (by simp [f15_0, f15_0_0]) (by omega)
    have hx := get_some (l := q) (i := k) (by omega)
    have h1 : (k : Int) < 16 := by omega
    have h0 : (0 : Int) ≤ k ∧ (k : Int) < 16 := by omega
    have w2 : IntKind.i64.wrap ((k : Int) + 1) = ((k + 1 : Nat) : Int) := by rw [wrap64 (by omega) (by omega)]; rfl
    have hb4 : (0 : Int) ≤ ((k / 4 : Nat) : Int) ∧ ((k / 4 : Nat) : Int) < 4 := by omega
    have hw := width_ok (q.getD k 0) (hr k).1 (hr k).2
    simp only [f15_0, f15_0_0, asI_i, asL_l, asE_nil, Bool.cond_decide, if_pos h1, if_pos h0, Int.toNat_natCast, hx, optK_some, band_ok k hk, altK_0, if_pos hb4, Ms_get (wq q) k (k / 4) (by omega), hw, w2]
    rw [if_pos (by show k / 4 < 4; omega)]
    have := Ms_set (wq q) k hk
    rw [← this, ← max_cast]
    rfl
  have e4 : List.take 4 (Ms (wq q) 16) = Ms (wq q) 16 := rfl
  have e5 : (Ms (wq q) 16).length = 4 := rfl
  simp only [g15, g15_0, asL_l, asI_i, asE_nil, if_pos (show 16 ≤ q.length by omega), ht, hl, altK_0, e4, e5, if_pos (Nat.le_refl 4), if_true]
  rfl
theorem cost17 (a b c d : Nat) (ha : a ≤ 64) (hb : b ≤ 64) (hc : c ≤ 64) (hd : d ≤ 64) : g17 (0, [.l [(a : Int), b, c, d]]) = some (0, [.i (4 * a + 4 * b + 4 * c + 4 * d : Nat)]) := by
  have wr : ∀ x : Int, 0 ≤ x → x ≤ 10000 → IntKind.i64.wrap x = x := fun x h1 h2 => wrap64 (by omega) (by omega)
  have hl : L17_0 (0, [.i 0, .l [(a : Int), b, c, d], .i 0, .l [(a : Int), b, c, d]]) = some (0, [.i (4 * a + 4 * b + 4 * c + 4 * d : Nat), .l [(a : Int), b, c, d]]) := by
    have s : ∀ (t : Nat) (k : Nat) (x : Nat), k < 4 → [(a : Int), b, c, d][k]? = some (x : Int) → t ≤ 5000 → x ≤ 64 → f17_0 (0, [.i t, .l [(a : Int), b, c, d], .i k, .l [(a : Int), b, c, d]]) = some (0, [.i (t + 4 * x : Nat), .l [(a : Int), b, c, d], .i (k + 1 : Nat), .l [(a : Int), b, c, d]]) := by
      intro t k x hk hx ht h64
      have h1 : (k : Int) < 4 := by omega
      have h0 : (0 : Int) ≤ k ∧ (k : Int) < 4 := by omega
      simp only [f17_0, f17_0_0, asI_i, asL_l, asE_nil, Bool.cond_decide, if_pos h1, if_pos h0, Int.toNat_natCast, hx, optK_some]
      rw [wr (4 * (x : Int)) (by omega) (by omega), wr ((t : Int) + 4 * x) (by omega) (by omega), wr ((k : Int) + 1) (by omega) (by omega)]
      rfl
    have e := s 0 0 a (by omega) rfl (by omega) ha
    have e1 := s (0 + 4 * a) 1 b (by omega) rfl (by omega) hb
    have e2 := s (0 + 4 * a + 4 * b) 2 c (by omega) rfl (by omega) hc
    have e3 := s (0 + 4 * a + 4 * b + 4 * c) 3 d (by omega) rfl (by omega) hd
    have e4 : f17_0 (0, [.i ((0 + 4 * a + 4 * b + 4 * c + 4 * d : Nat) : Int), .l [(a : Int), b, c, d], .i 4, .l [(a : Int), b, c, d]]) = some (1 + 0, [.i ((0 + 4 * a + 4 * b + 4 * c + 4 * d : Nat) : Int), .l [(a : Int), b, c, d]]) := rfl
    have hf : loopFuel = 36893488147419103227 + 1 + 1 + 1 + 1 + 1 := rfl
    show iterL 1 f17_0 loopFuel (0, [.i ((0 : Nat) : Int), .l [(a : Int), b, c, d], .i ((0 : Nat) : Int), .l [(a : Int), b, c, d]]) = _
    rw [hf, loop_step e Nat.zero_lt_one, loop_step e1 Nat.zero_lt_one, loop_step e2 Nat.zero_lt_one, loop_step e3 Nat.zero_lt_one]
    refine (loop_last (j := 0) e4 _).trans ?_
    simp
  simp only [g17, g17_0, asL_l, asI_i, asE_nil]
  rw [if_pos (by simp), show List.take 4 [(a : Int), b, c, d] = [(a : Int), b, c, d] from rfl, hl]
  rfl
/-- THE LAW. -/
theorem qwidths (q : List Int) (hq : q.length = 16) (hr : ∀ k, -9223372036854775808 ≤ q.getD k 0 ∧ q.getD k 0 ≤ 9223372036854775807) : g5 (0, [.l q]) = some (0, [.b true]) := by
  have ht : List.take 16 q = q := List.take_of_length_le (by omega)
  have hw := widths15 q hq hr
  have hM : ∀ j k, M (wq q) j k ≤ 64 := fun j k => M_le _ 64 (fun k => szV_le _ (hr k).1 (hr k).2) j k
  have inner : ∀ (j : Nat) (s : Int), j < 4 → L5_0 (0, [.i s, .i j, .i 0, .i (4 * j : Nat), .l q, .l (Ms (wq q) 16)]) = some (0, [.i s, .i j, .i (M (wq q) j 16 : Nat), .l q, .l (Ms (wq q) 16)]) := by
    intro j s hj
    have wj : IntKind.i64.wrap (IntKind.i64.wrap (4 * (j : Int)) + 4) = 4 * j + 4 := by rw [wrap64 (x := 4 * (j : Int)) (by omega) (by omega), wrap64 (by omega) (by omega)]
    have := loop1_run (f := f5_0) (fun k => [.i s, .i j, .i (M (wq q) j (4 * j + k) : Nat), .i (4 * j + k : Nat), .l q, .l (Ms (wq q) 16)]) 4 (j := 0) (r := [.i s, .i j, .i (M (wq q) j 16 : Nat), .l q, .l (Ms (wq q) 16)]) (fun k hk => ?_) ?_ (by omega)
    · have e0 := M_before (wq q) j (4 * j + 0) (by omega)
      simp only [e0] at this
      exact this
    · have hx := get_some (l := q) (i := 4 * j + k) (by omega)
      have h1 : ((4 * j + k : Nat) : Int) < 4 * j + 4 := by omega
      have h0 : (0 : Int) ≤ ((4 * j + k : Nat) : Int) ∧ ((4 * j + k : Nat) : Int) < 16 := by omega
      have w2 : IntKind.i64.wrap (((4 * j + k : Nat) : Int) + 1) = ((4 * j + (k + 1) : Nat) : Int) := by rw [wrap64 (by omega) (by omega)]; omega
      have hwk := width_ok (q.getD (4 * j + k) 0) (hr _).1 (hr _).2
      have hst := M_step (wq q) j (4 * j + k) (by omega) (by omega)
      have hst' : M (wq q) j (4 * j + (k + 1)) = max (M (wq q) j (4 * j + k)) (szV (q.getD (4 * j + k) 0)) := hst
      simp only [f5_0, f5_0_0, asI_i, asL_l, asE_nil, Bool.cond_decide, wj, if_pos h1, if_pos h0, Int.toNat_natCast, hx, optK_some, hwk, altK_0, w2]
      rw [hst']
      by_cases hc : ((M (wq q) j (4 * j + k) : Nat) : Int) < (szV (q.getD (4 * j + k) 0) : Nat)
      · rw [if_pos hc, Nat.max_eq_right (by omega)]
      · rw [if_neg hc, Nat.max_eq_left (by omega)]
    · have hx : ¬ ((4 * j + 4 : Nat) : Int) < 4 * j + 4 := by omega
      have e16 : M (wq q) j (4 * j + 4) = M (wq q) j 16 := by
        have := M_behind (wq q) j (12 - 4 * j)
        rw [show 4 * j + 4 + (12 - 4 * j) = 16 by omega] at this
        exact this.symm
      simp only [f5_0, f5_0_0, asI_i, asL_l, asE_nil, Bool.cond_decide, wj, if_neg hx, e16]
  have hsum : ∀ n, n ≤ 4 → ((List.range n).map fun j => 4 * M (wq q) j 16).sum ≤ 256 * n := by
    intro n
    induction n with
    | zero => intro _; simp
    | succ n ih =>
      intro hn
      have := ih (by omega)
      have := hM n 16
      rw [List.range_succ, List.map_append, List.sum_append]
      simp
      omega
  have outer : L5_1 (0, [.i 0, .i 0, .l q, .l (Ms (wq q) 16)]) = some (0, [.i (((List.range 4).map fun j => 4 * M (wq q) j 16).sum : Nat), .l q, .l (Ms (wq q) 16)]) := by
    refine loop1_run (f := f5_1) (fun k => [.i (((List.range k).map fun j => 4 * M (wq q) j 16).sum : Nat), .i k, .l q, .l (Ms (wq q) 16)]) 4 (fun k hk => ?_) (by simp [f5_1, f5_1_0]) (by omega)
    have h1 : (k : Int) < 4 := by omega
    have h0 : (0 : Int) ≤ k ∧ (k : Int) < 4 := by omega
    have w2 : IntKind.i64.wrap ((k : Int) + 1) = ((k + 1 : Nat) : Int) := by rw [wrap64 (by omega) (by omega)]; rfl
    have w4 : IntKind.i64.wrap (4 * (k : Int)) = ((4 * k : Nat) : Int) := by rw [wrap64 (by omega) (by omega)]; omega
    have hk16 := hM k 16
    have hs := hsum k (by omega)
    have w5 : IntKind.i64.wrap (4 * ((M (wq q) k 16 : Nat) : Int)) = ((4 * M (wq q) k 16 : Nat) : Int) := by rw [wrap64 (by omega) (by omega)]; omega
    have e : ((List.range (k + 1)).map fun j => 4 * M (wq q) j 16).sum = ((List.range k).map fun j => 4 * M (wq q) j 16).sum + 4 * M (wq q) k 16 := by
      rw [List.range_succ, List.map_append, List.sum_append]; simp
    simp only [f5_1, f5_1_0, asI_i, asL_l, asE_nil, Bool.cond_decide, if_pos h1, w4, inner k _ hk, altK_0, if_pos h0, Int.toNat_natCast, Ms_get (wq q) 16 k hk, optK_some, ne_eq, not_true_eq_false, if_false, w5, w2]
    rw [e]
    generalize ((List.range k).map fun j => 4 * M (wq q) j 16).sum = S at hs ⊢
    rw [wrap64 (by omega) (by omega)]
    congr 4
  have e4 : List.take 4 (Ms (wq q) 16) = Ms (wq q) 16 := rfl
  have e5 : (Ms (wq q) 16).length = 4 := rfl
  have e6 : Ms (wq q) 16 ++ List.drop (0 + 4) [(0 : Int), 0, 0, 0] = Ms (wq q) 16 := by simp
  have hc := cost17 (M (wq q) 0 16) (M (wq q) 1 16) (M (wq q) 2 16) (M (wq q) 3 16) (hM _ _) (hM _ _) (hM _ _) (hM _ _)
  have e7 : ((List.range 4).map fun j => 4 * M (wq q) j 16).sum = 4 * M (wq q) 0 16 + 4 * M (wq q) 1 16 + 4 * M (wq q) 2 16 + 4 * M (wq q) 3 16 := by
    simp [List.range_succ]; omega
  have hc' : g17 (0, [.l (Ms (wq q) 16)]) = some (0, [.i (((List.range 4).map fun j => 4 * M (wq q) j 16).sum : Nat)]) := by rw [e7]; exact hc
  simp only [g5, g5_0, asL_l, asI_i, asE_nil, asB_b, if_pos (show 16 ≤ q.length by omega), ht, hw, altK_0, e5, if_true, Nat.zero_add, Nat.le_refl]
  rw [Nat.zero_add] at e6
  simp only [e6, outer, altK_0, asL_l, asI_i, asE_nil, e5, e4, Nat.le_refl, if_true, hc', Bool.cond_decide, awake7, asB_b]
theorem getD_wf {k : IntKind} {q : List Int} (h : ∀ x ∈ q, (Lit.int k x).wf = true) (i : Nat) : (Lit.int k (q.getD i 0)).wf = true := by
  by_cases hi : i < q.length
  · exact h _ (by simp [hi])
  · have : q.getD i 0 = 0 := by simp [List.getD, List.getElem?_eq_none (Nat.le_of_not_lt hi)]
    rw [this]
    cases k <;> rfl
theorem qwidths_ev (q : List Int) (hq : q.length = 16) (hr : ∀ x ∈ q, (Lit.int .i64 x).wf = true) : evF tab 4 5 [.ints .i64 q] [] = some (.bool true, [], []) :=
  (ok5 0).ret (i := 0) (ls := [.l q]) (j := 0) (r := [.b true]) (qwidths q hq (fun k => wf64 (getD_wf hr k))) rfl rfl rfl rfl
end Go.Proofs.Ytmankoejlflhmaa
