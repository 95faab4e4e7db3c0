/-
  The law of how far two blocks are from one another. Conditions: none.
-/
import Derived.Test.YtmankoejlflhmaaQval
namespace Go.Proofs.Ytmankoejlflhmaa
open Go Go.Sx
set_option maxRecDepth 100000
set_option linter.unusedVariables false
attribute [local simp] asI_i asB_b asL_l asN_n asS_s asE_nil altK_none altK_0 altK_1 altK_2 altK_3 optK_some optK_none Bool.cond_decide Bool.cond_not Int.toNat_natCast
set_option linter.unusedSimpArgs false
def bandV (i : Int) : Int := if 0 ≤ i ∧ i < 16 then i / 4 else 0
theorem tdiv4 {i : Int} (h0 : 0 ≤ i) (h1 : i < 16) : IntKind.i64.wrap (Int.tdiv i 4) = i / 4 := by
  rw [Int.tdiv_eq_ediv_of_nonneg h0, wrap64 (by omega) (by omega)]
theorem band_any (i : Int) : g18 (0, [.i i]) = some (0, [.i (bandV i)]) := by
  simp -implicitDefEqProofs only [g18, g18_0, asI_i, asE_nil, Bool.cond_decide]
  unfold bandV
  by_cases h0 : i < 0
  · rw [if_pos h0, if_neg (by omega)]
  · rw [if_neg h0]
    by_cases h1 : 16 ≤ i
    · rw [if_pos h1, if_neg (by omega)]
    · rw [if_neg h1, if_pos (by omega), tdiv4 (by omega) (by omega)]
def halfV (s : Int) : Int := if 1 ≤ s ∧ s ≤ 23 then IntKind.i64.wrap (Int.tdiv ((2 ^ s.toNat : Nat) : Int) 2) else 0
theorem half_any (s : Int) : g14 (0, [.i s]) = some (0, [.i (halfV s)]) := by
  simp -implicitDefEqProofs only [g14, g14_0, asI_i, asE_nil, Bool.cond_decide]
  unfold halfV
  by_cases h0 : s ≤ 0
  · rw [if_pos h0, if_neg (by omega)]
  · rw [if_neg h0]
    by_cases h1 : s ≤ 23
    · have := step_ok s.toNat (by omega)
      rw [Int.toNat_of_nonneg (by omega)] at this
      rw [this, if_pos (by omega), altK_0, asI_i, asE_nil]
    · have : g20 (0, [.i s]) = some (0, [.i 0]) := by
        simp -implicitDefEqProofs only [g20, g20_0, asI_i, asE_nil, Bool.cond_decide]
        rw [if_neg (by omega), if_pos (by omega)]
      rw [this, if_neg (by omega), altK_0, asI_i, asE_nil]
      rfl
theorem power_any (s : Int) (h0 : 1 ≤ s) (h1 : s ≤ 23) : g10 (0, [.i s]) = some (0, [.i ((2 ^ s.toNat : Nat) : Int)]) := by
  have := power_ok s.toNat (by omega)
  rwa [Int.toNat_of_nonneg (by omega)] at this
def okN (l : List Int) (k : Nat) : Bool := decide (-1099511627776 ≤ l.getD k 0 ∧ l.getD k 0 ≤ 1099511627776)
def nearB (l : List Int) : Bool := (List.range 16).all (okN l)
theorem near13 (l : List Int) (h : l.length = 16) : g13 (0, [.l l]) = some (0, [.b (nearB l)]) := by
  have hl : L13_0 (0, [.i 0, .l l]) = if nearB l then some (0, [.l l]) else some (1, [.l l]) := by
    refine loop1_all (fun k => [.i k, .l l]) (okN l) 16 (fun k hk hp => ?_) (fun k hk hp => ?_) (by simp [f13_0, f13_0_0]) (by omega)
    all_goals
      have hx := get_some (l := l) (i := k) (by omega)
      have h1 : (k : Int) < 16 := by omega
      have h0 : (0 : Int) ≤ k ∧ (k : Int) < 16 := by omega
      have w2 : IntKind.i64.wrap ((k : Int) + 1) = ((k + 1 : Nat) : Int) := wrap_nat (n := k + 1) (by omega)
      generalize hxv : l.getD k 0 = x at hx
      simp only [okN, hxv, decide_eq_true_eq, decide_eq_false_iff_not] at hp
      simp only [f13_0, f13_0_0, asI_i, asL_l, asE_nil, Bool.cond_decide, if_pos h1, if_pos h0, Int.toNat_natCast, hx, optK_some, w2]
    · rw [if_neg (by omega), if_neg (by omega)]
    · by_cases hn : x < -1099511627776
      · rw [if_pos hn]
      · rw [if_neg hn, if_pos (by omega)]
  simp -implicitDefEqProofs only [g13, g13_0, asL_l, asE_nil, hl]
  cases nearB l <;> simp
theorem okN_of {l : List Int} (h : nearB l = true) {k : Nat} (hk : k < 16) : -1099511627776 ≤ l.getD k 0 ∧ l.getD k 0 ≤ 1099511627776 := by
  have := List.all_eq_true.1 h k (List.mem_range.2 hk)
  simpa [okN] using this
def dist (x : Int) : Int := if x < 0 then -x else x
def farK (a b : List Int) : Nat → Int
  | 0 => 0
  | k + 1 => max (farK a b k) (dist (a.getD k 0 - b.getD k 0))
def diffL (a b : List Int) : List Int := (List.range 16).map fun k => a.getD k 0 - b.getD k 0
theorem noise19 (a b : List Int) (ha : a.length = 16) (hb : b.length = 16) (na : nearB a = true) (nb : nearB b = true) : g19 (0, [.l a, .l b]) = some (0, [.i (farK a b 16)]) := by
  have hd : (diffL a b).length = 16 := by simp [diffL]
  have hz : (List.replicate 16 (0 : Int)).length = 16 := by simp
  have h1L : L19_0 (0, [.i 0, .l a, .l b, .l (List.replicate 16 0)]) = some (0, [.l a, .l b, .l (diffL a b)]) := by
    have hv : (diffL a b).length = (List.replicate 16 (0 : Int)).length := by rw [hd, hz]
    have := loop1_run (f := f19_0) (fun k => [.i k, .l a, .l b, .l (mix (diffL a b) (List.replicate 16 0) k)]) 16 (j := 0) (r := [.l a, .l b, .l (diffL a b)]) (fun k hk => ?_) ?_ (by omega)
    · rw [mix_zero] at this; exact this
    · have hx := get_some (l := a) (i := k) (by omega)
      have hy := get_some (l := b) (i := k) (by omega)
      have oa := okN_of na hk
      have ob := okN_of nb hk
      have h1 : (k : Int) < 16 := by omega
      have h0 : (0 : Int) ≤ k ∧ (k : Int) < 16 := by omega
      have w2 : IntKind.i64.wrap ((k : Int) + 1) = ((k + 1 : Nat) : Int) := wrap_nat (n := k + 1) (by omega)
      have hl : k < (mix (diffL a b) (List.replicate 16 0) k).length := by rw [mix_len hv]; omega
      have hs := mix_set hv (k := k) (by omega) (x := a.getD k 0 - b.getD k 0) (by simp [diffL, hk])
      generalize hxa : a.getD k 0 = x at *
      generalize hyb : b.getD k 0 = y at *
      have w3 : IntKind.i64.wrap (x - y) = x - y := wrap64 (by omega) (by omega)
      simp -implicitDefEqProofs only [f19_0, f19_0_0, asI_i, asL_l, asE_nil, Bool.cond_decide, if_pos h1, if_pos h0, Int.toNat_natCast, hx, hy, optK_some, w2, w3, if_pos hl, hs]
    · have : mix (diffL a b) (List.replicate 16 (0 : Int)) 16 = diffL a b := by
        have := mix_all hv
        rwa [hz] at this
      simp only [f19_0, f19_0_0, asI_i, asL_l, asE_nil, Bool.cond_decide, this]
      rfl
  have h2L : L22_0 (0, [.i 0, .n 16, .i 16, .i 0, .l (diffL a b)]) = some (0, [.i (farK a b 16), .l (diffL a b)]) := by
    refine loop1_run (f := f22_0) (fun k => [.i (farK a b k), .n 16, .i 16, .i k, .l (diffL a b)]) 16 (fun k hk => ?_) (by simp [f22_0, f22_0_0]) (by omega)
    have hx : (diffL a b)[k]? = some (a.getD k 0 - b.getD k 0) := by simp [diffL, hk]
    have oa := okN_of na hk
    have ob := okN_of nb hk
    have h1 : (k : Int) < 16 := by omega
    have h0 : (0 : Int) ≤ k ∧ (k : Int) < ((16 : Nat) : Int) := by omega
    have w2 : IntKind.i64.wrap ((k : Int) + 1) = ((k + 1 : Nat) : Int) := wrap_nat (n := k + 1) (by omega)
    have e1 : farK a b (k + 1) = max (farK a b k) (dist (a.getD k 0 - b.getD k 0)) := rfl
    rw [e1]
    have od : -2199023255552 ≤ a.getD k 0 - b.getD k 0 ∧ a.getD k 0 - b.getD k 0 ≤ 2199023255552 := by omega
    generalize a.getD k 0 - b.getD k 0 = d at *
    have hab : g23 (0, [.i d]) = some (0, [.i (dist d)]) := by
      simp -implicitDefEqProofs only [g23, g23_0, asI_i, asE_nil, Bool.cond_decide]
      rw [if_neg (by omega)]
      unfold dist
      by_cases hd0 : d < 0
      · rw [if_pos hd0, if_pos hd0, wrap64 (by omega) (by omega)]
        congr 4
        omega
      · rw [if_neg hd0, if_neg hd0]
    have hm : (if dist d > farK a b k then dist d else farK a b k) = max (farK a b k) (dist d) := by split <;> omega
    simp -implicitDefEqProofs only [f22_0, f22_0_0, asN_n, asI_i, asL_l, asE_nil, Bool.cond_decide, if_pos h1, if_pos h0, Int.toNat_natCast, hx, optK_some, hab, altK_0, hm, w2]
  have hrep : List.replicate 16 (0 : Int) = [0, 0, 0, 0, 0, 0, 0, 0, 0, 0, 0, 0, 0, 0, 0, 0] := rfl
  rw [hrep] at h1L
  have h22 : g22 (0, [.n 16, .l (diffL a b)]) = some (0, [.i (farK a b 16), .l (diffL a b)]) := by
    simp -implicitDefEqProofs only [g22, g22_0, asN_n, asL_l, asI_i, asE_nil]
    have : ((16 : Nat) : Int) = 16 := rfl
    rw [this, h2L, altK_0]
    rfl
  simp -implicitDefEqProofs only [g19, g19_0, asL_l, asI_i, asE_nil, h1L, altK_0, hd, Nat.le_refl, if_true, h22]
theorem far_loop (a b : List Int) (ha : a.length = 16) (hb : b.length = 16) (na : nearB a = true) (nb : nearB b = true) : L6_0 (0, [.i 0, .i 0, .l a, .l b]) = some (0, [.i (farK a b 16), .l a, .l b]) := by
  refine loop1_run (f := f6_0) (fun k => [.i (farK a b k), .i k, .l a, .l b]) 16 (fun k hk => ?_) (by simp [f6_0, f6_0_0]) (by omega)
  have hx := get_some (l := a) (i := k) (by omega)
  have hy := get_some (l := b) (i := k) (by omega)
  have oa := okN_of na hk
  have ob := okN_of nb hk
  have h1 : (k : Int) < 16 := by omega
  have h0 : (0 : Int) ≤ k ∧ (k : Int) < 16 := by omega
  have w2 : IntKind.i64.wrap ((k : Int) + 1) = ((k + 1 : Nat) : Int) := wrap_nat (n := k + 1) (by omega)
  have e1 : farK a b (k + 1) = max (farK a b k) (dist (a.getD k 0 - b.getD k 0)) := rfl
  rw [e1]
  generalize hxa : a.getD k 0 = x at *
  generalize hyb : b.getD k 0 = y at *
  have w3 : IntKind.i64.wrap (x - y) = x - y := wrap64 (by omega) (by omega)
  have w4 : IntKind.i64.wrap (0 - (x - y)) = 0 - (x - y) := wrap64 (by omega) (by omega)
  simp -implicitDefEqProofs only [f6_0, f6_0_0, asI_i, asL_l, asE_nil, Bool.cond_decide, if_pos h1, if_pos h0, Int.toNat_natCast, hx, hy, optK_some, w2, w3, w4]
  unfold dist
  generalize farK a b k = F at *
  repeat' split
  all_goals
    simp only [Option.some.injEq, Prod.mk.injEq, List.cons.injEq, Leaf.i.injEq, true_and, and_true]
    omega
theorem qnoise (a b : List Int) (i s : Int) (ha : a.length = 16) (hb : b.length = 16) : g6 (0, [.l a, .l b, .i i, .i s]) = some (0, [.b true]) := by
  have ta : List.take 16 a = a := List.take_of_length_le (by omega)
  have tb : List.take 16 b = b := List.take_of_length_le (by omega)
  have la : 16 ≤ a.length := by omega
  have lb : 16 ≤ b.length := by omega
  have n1 := near13 a ha
  have n2 := near13 b hb
  have bn := band_any i
  have hf := half_any s
  have ac : 0 ≤ i → i < 16 → IntKind.i64.wrap (Int.tdiv i 4) = bandV i := fun h0 h1 => by
    rw [tdiv4 h0 h1]; unfold bandV; rw [if_pos ⟨h0, h1⟩]
  have az : ¬ (0 ≤ i ∧ i < 16) → bandV i = 0 := fun h => by unfold bandV; rw [if_neg h]
  have hc : 1 ≤ s → s ≤ 23 → IntKind.i64.wrap (Int.tdiv ((2 ^ s.toNat : Nat) : Int) 2) = halfV s := fun h0 h1 => by
    unfold halfV; rw [if_pos ⟨h0, h1⟩]
  have hz : ¬ (1 ≤ s ∧ s ≤ 23) → halfV s = 0 := fun h => by unfold halfV; rw [if_neg h]
  have rest : ∀ (X : Option (Nat × List Leaf)), X = some (0, [.b true]) → X = some (0, [.b true]) := fun _ h => h
  have fin : nearB a = true → nearB b = true → L6_0 (0, [.i 0, .i 0, .l a, .l b]) = some (0, [.i (farK a b 16), .l a, .l b]) ∧ g19 (0, [.l a, .l b]) = some (0, [.i (farK a b 16)]) := fun h1 h2 => ⟨far_loop a b ha hb h1 h2, noise19 a b ha hb h1 h2⟩
  have hne : ∀ x : Int, (x ≠ x) = False := fun x => by simp
  by_cases i1 : 0 ≤ i <;> by_cases i2 : i < 16 <;> by_cases s1 : 1 ≤ s <;> by_cases s2 : s ≤ 23
  all_goals
    simp -implicitDefEqProofs only [g6, g6_0, asL_l, asI_i, asB_b, asE_nil, Bool.cond_decide, i1, i2, s1, s2, if_true, if_false]
    first
      | rw [power_any s s1 s2]
      | skip
    simp -implicitDefEqProofs only [bn, hf, altK_0, asI_i, asE_nil, asB_b, if_pos la, if_pos lb, ta, tb, n1, n2, ac, az, hc, hz, i1, i2, s1, s2, and_true, true_and, and_false, false_and, not_false_eq_true, and_self, hne, if_false]
    cases hna : nearB a
    · simp -implicitDefEqProofs only [Bool.not_false, cond_true, awakeL_ok, altK_0, asB_b, asE_nil]
    · cases hnb : nearB b
      · simp -implicitDefEqProofs only [Bool.not_false, Bool.not_true, cond_true, cond_false, awakeL_ok, altK_0, asB_b, asE_nil]
      · obtain ⟨e1, e2⟩ := fin hna hnb
        simp -implicitDefEqProofs only [Bool.not_true, cond_false, e1, e2, altK_0, asI_i, asL_l, asE_nil, if_pos la, if_pos lb, ta, tb, if_true, awakeL_ok, asB_b]
theorem qnoise_ev (a b : List Int) (i s : Int) (ha : a.length = 16) (hb : b.length = 16) : ∃ d, evF tab d 6 [.ints .i64 a, .ints .i64 b, .int .i64 i, .int .i64 s] [] = some (.bool true, [], []) :=
  ⟨_, (ok6 0).ret (i := 0) (ls := [.l a, .l b, .i i, .i s]) (j := 0) (r := [.b true]) (qnoise a b i s ha hb) rfl rfl rfl rfl⟩
end Go.Proofs.Ytmankoejlflhmaa
