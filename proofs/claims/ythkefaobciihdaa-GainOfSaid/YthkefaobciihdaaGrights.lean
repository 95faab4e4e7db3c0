/-
  The law of which gains may be. Conditions: none.
-/
import Derived.Test.YthkefaobciihdaaDecA
import Derived.KernelRfl
namespace Go.Proofs.Ythkefaobciihdaa
open Go Go.Sx
set_option maxRecDepth 100000
set_option linter.unusedVariables false
attribute [local simp] asI_i asB_b asL_l asN_n asS_s asE_nil altK_none altK_0 altK_1 altK_2 altK_3 optK_some optK_none Bool.cond_decide Bool.cond_not Int.toNat_natCast
set_option linter.unusedSimpArgs false
def okG (l : List Int) (k : Nat) : Bool := decide (0 ≤ l.getD k 0 ∧ l.getD k 0 ≤ 3)
def rightG (l : List Int) : Bool := (List.range 4).all (okG l)
theorem gright_ok (l : List Int) (h : l.length = 4) : g10 (0, [.l l]) = some (0, [.b (rightG l)]) := by
  have ht : List.take 4 l = l := List.take_of_length_le (by omega)
  have hl : L10_0 (0, [.l l, .i 0, .l l]) = if rightG l then some (0, [.l l]) else some (1, [.l l]) := by
    refine loop1_all (fun k => [.l l, .i k, .l l]) (okG l) 4 (fun k hk hp => ?_) (fun k hk hp => ?_) (by simp [f10_0, f10_0_0]) (by omega)
    all_goals
      have hx := get_some (l := l) (i := k) (by omega)
      have h1 : (k : Int) < 4 := by omega
      have h0 : (0 : Int) ≤ k ∧ (k : Int) < 4 := by omega
      have w2 : IntKind.i64.wrap ((k : Int) + 1) = ((k + 1 : Nat) : Int) := by rw [wrap64 (by omega) (by omega)]; rfl
      generalize hxv : l.getD k 0 = x at hx
      simp only [okG, hxv, decide_eq_true_eq, decide_eq_false_iff_not] at hp
      simp only [f10_0, f10_0_0, asI_i, asL_l, asE_nil, Bool.cond_decide, if_pos h1, if_pos h0, Int.toNat_natCast, hx, optK_some, w2]
    · rw [if_neg (by omega), if_neg (by omega)]
    · by_cases hn : x < 0
      · rw [if_pos hn]
      · rw [if_neg hn, if_pos (by omega)]
  simp only [g10, g10_0, asL_l, asE_nil, if_pos (show 4 ≤ l.length by omega), ht, hl]
  cases rightG l <;> simp
theorem grightL_ok (l : List Int) (h : l.length = 4) : g11 (0, [.l l]) = some (0, [.b (rightG l)]) := by
  have hl : L11_0 (0, [.i 0, .l l]) = if rightG l then some (0, [.l l]) else some (1, [.l l]) := by
    refine loop1_all (fun k => [.i k, .l l]) (okG l) 4 (fun k hk hp => ?_) (fun k hk hp => ?_) (by simp [f11_0, f11_0_0]) (by omega)
    all_goals
      have hx := get_some (l := l) (i := k) (by omega)
      have h1 : (k : Int) < 4 := by omega
      have h0 : (0 : Int) ≤ k ∧ (k : Int) < 4 := by omega
      have w2 : IntKind.i64.wrap ((k : Int) + 1) = ((k + 1 : Nat) : Int) := by rw [wrap64 (by omega) (by omega)]; rfl
      generalize hxv : l.getD k 0 = x at hx
      simp only [okG, hxv, decide_eq_true_eq, decide_eq_false_iff_not] at hp
      simp only [f11_0, f11_0_0, asI_i, asL_l, asE_nil, Bool.cond_decide, if_pos h1, if_pos h0, Int.toNat_natCast, hx, optK_some, w2]
    · rw [if_neg (by omega), if_neg (by omega)]
    · by_cases hn : x < 0
      · rw [if_pos hn]
      · rw [if_neg hn, if_pos (by omega)]
  simp only [g11, g11_0, asL_l, asE_nil, hl]
  cases rightG l <;> simp
/-- The gain of a place. -/
def gainAt (l : List Int) (i : Int) : Int := if 0 ≤ i ∧ i < 16 ∧ rightG l = true then l.getD (i.toNat / 4) 0 else 0
theorem quarter {i : Int} (h0 : 0 ≤ i) (h1 : i < 16) : IntKind.i64.wrap (Int.tdiv i 4) = ((i.toNat / 4 : Nat) : Int) ∧ (0 : Int) ≤ ((i.toNat / 4 : Nat) : Int) ∧ ((i.toNat / 4 : Nat) : Int) < 4 := by
  obtain ⟨n, rfl⟩ : ∃ n : Nat, i = n := ⟨i.toNat, by omega⟩
  rw [Int.toNat_natCast]
  refine ⟨wrap_div (b := 4) (by omega), by omega, by omega⟩
theorem gat_ok (l : List Int) (i : Int) (h : l.length = 4) : g12 (0, [.l l, .i i]) = some (0, [.i (gainAt l i)]) := by
  have ht : List.take 4 l = l := List.take_of_length_le (by omega)
  have hr := gright_ok l h
  simp -implicitDefEqProofs only [g12, g12_0, asL_l, asI_i, asE_nil, Bool.cond_decide, if_pos (show 4 ≤ l.length by omega), ht, hr, altK_0, asB_b]
  by_cases h0 : i < 0
  · rw [if_pos h0]; simp [gainAt, show ¬ 0 ≤ i by omega]
  · rw [if_neg h0]
    by_cases h1 : 16 ≤ i
    · rw [if_pos h1]; simp [gainAt, show ¬ i < 16 by omega]
    · rw [if_neg h1]
      obtain ⟨q1, q2, q3⟩ := quarter (i := i) (by omega) (by omega)
      have hx := get_some (l := l) (i := i.toNat / 4) (by omega)
      cases hrg : rightG l
      · simp [gainAt, hrg]
      · simp only [Bool.not_true, cond_false, q1, if_pos (And.intro q2 q3), Int.toNat_natCast, hx, optK_some]
        simp [gainAt, hrg, show 0 ≤ i by omega, show i < 16 by omega]
theorem gflat_ok (l : List Int) (h : l.length = 4) : g13 (0, [.l l]) = some (0, [.b (decide (l = [0, 0, 0, 0]))]) := by
  have ht : List.take 4 l = l := List.take_of_length_le (by omega)
  simp only [g13, g13_0, asL_l, asE_nil, if_pos (show 4 ≤ l.length by omega), ht, h, if_true, Nat.le_refl]
theorem awakeG : awakeL (0, []) = some (0, [.b true]) := rfl
theorem grights (l : List Int) (i : Int) (h : l.length = 4) : g4 (0, [.l l, .i i]) = some (0, [.b true]) := by
  have ht : List.take 4 l = l := List.take_of_length_le (by omega)
  have hr := gright_ok l h
  have hrl := grightL_ok l h
  have ha := gat_ok l i h
  have hf := gflat_ok l h
  have aw := awakeG
  have h4 : 4 ≤ l.length := by omega
  simp -implicitDefEqProofs only [g4, g4_0, asL_l, asI_i, asE_nil, Bool.cond_decide, if_pos h4, ht, hr, hrl, ha, hf, aw, altK_0, asB_b, h, if_true]
  by_cases h0 : 0 ≤ i
  · rw [if_pos h0]
    by_cases h1 : i < 16
    · rw [if_pos h1]
      obtain ⟨q1, q2, q3⟩ := quarter h0 h1
      have hx := get_some (l := l) (i := i.toNat / 4) (by omega)
      cases hrg : rightG l
      · simp [gainAt, hrg]
      · simp only [cond_true, q1, if_pos (And.intro q2 q3), Int.toNat_natCast, hx, optK_some]
        simp [gainAt, hrg, h0, h1]
    · rw [if_neg h1]; simp [gainAt, h1]
  · rw [if_neg h0]; simp [gainAt, h0]
theorem grights_ev (l : List Int) (i : Int) (h : l.length = 4) : ∃ d, evF tab d 4 [.ints .i64 l, .int .i64 i] [] = some (.bool true, [], []) :=
  ⟨_, (ok4 0).ret (i := 0) (ls := [.l l, .i i]) (j := 0) (r := [.b true]) (grights l i h) rfl rfl rfl rfl⟩
end Go.Proofs.Ythkefaobciihdaa
