/-
  The law of the numbers that steps are. Conditions: none.
-/
import Derived.Test.YtmankoejlflhmaaDecA
import Derived.Test.YtmankoejlflhmaaSxW
import Derived.KernelRfl
namespace Go.Proofs.Ytmankoejlflhmaa
open Go Go.Sx
set_option maxRecDepth 100000
set_option linter.unusedVariables false
attribute [local simp] asI_i asB_b asL_l asN_n asS_s asE_nil altK_none altK_0 altK_1 altK_2 altK_3 optK_some optK_none Bool.cond_decide Bool.cond_not Int.toNat_natCast
set_option linter.unusedSimpArgs false
theorem awake7 : awakeL (0, []) = some (0, [.b true]) := rfl
/-- 2 to the power of s: by doubling. -/
theorem power_ok (n : Nat) (h : n ≤ 62) : g10 (0, [.i n]) = some (0, [.i (2 ^ n : Nat)]) := by
  have hl : L10_0 (0, [.i n, .i 1, .i 0]) = some (0, [.i (2 ^ n : Nat)]) := by
    refine loop1_run (fun k => [.i n, .i (2 ^ k : Nat), .i k]) n (fun k hk => ?_) ?_ (by omega)
    · have h1 : (k : Int) < n := by omega
      have hp : 2 ^ (k + 1) ≤ 2 ^ 62 := Nat.pow_le_pow_right (by omega) (by omega)
      have hp2 : 2 ^ (k + 1) = 2 * 2 ^ k := by rw [Nat.pow_succ, Nat.mul_comm]
      have w1 : IntKind.i64.wrap (2 * ((2 ^ k : Nat) : Int)) = ((2 ^ (k + 1) : Nat) : Int) := by rw [wrap64 (by omega) (by omega)]; omega
      have w2 : IntKind.i64.wrap ((k : Int) + 1) = ((k + 1 : Nat) : Int) := by rw [wrap64 (by omega) (by omega)]; rfl
      simp only [f10_0, f10_0_0, asI_i, asE_nil, Bool.cond_decide, if_pos h1, w1, w2]
    · simp [f10_0, f10_0_0]
  simp only [g10, g10_0, asI_i, asE_nil, hl, altK_0]
theorem step_ok (n : Nat) (h : n ≤ 23) : g20 (0, [.i n]) = some (0, [.i (2 ^ n : Nat)]) := by
  have h1 : ¬ (n : Int) < 0 := by omega
  have h2 : ¬ (23 : Int) < n := by omega
  have e : shlI .i64 1 n = (2 ^ n : Nat) := by
    have hp : 2 ^ n ≤ 2 ^ 23 := Nat.pow_le_pow_right (by omega) (by omega)
    have hm : min n 64 = n := by omega
    unfold shlI
    simp only [Int.toNat_natCast, IntKind.bits, hm, Int.one_mul]
    have : ((2 : Int) ^ n) = ((2 ^ n : Nat) : Int) := by simp
    rw [this]
    generalize (2 : Nat) ^ n = P at hp ⊢
    exact wrap64 (by omega) (by omega)
  simp only [g20, g20_0, asI_i, asE_nil, Bool.cond_decide, if_neg h1, if_neg h2, e]
theorem band_ok (k : Nat) (h : k < 16) : g18 (0, [.i k]) = some (0, [.i (k / 4 : Nat)]) := by
  have h1 : ¬ (k : Int) < 0 := by omega
  have h2 : ¬ (16 : Int) ≤ k := by omega
  have e : IntKind.i64.wrap (Int.tdiv k 4) = ((k / 4 : Nat) : Int) := by
    rw [show Int.tdiv (k : Int) 4 = ((k / 4 : Nat) : Int) from rfl]
    exact wrap64 (by omega) (by omega)
  simp only [g18, g18_0, asI_i, asE_nil, Bool.cond_decide, if_neg h1, if_neg h2, e]
def okS (l : List Int) (k : Nat) : Bool := decide (0 ≤ l.getD k 0 ∧ l.getD k 0 ≤ 23)
def rightB (l : List Int) : Bool := (List.range 4).all (okS l)
theorem rightP_ok (l : List Int) (h : l.length = 4) : g12 (0, [.l l]) = some (0, [.b (rightB l)]) := by
  have ht : List.take 4 l = l := List.take_of_length_le (by omega)
  have hl : L12_0 (0, [.l l, .i 0, .l l]) = if rightB l then some (0, [.l l]) else some (1, [.l l]) := by
    refine loop1_all (fun k => [.l l, .i k, .l l]) (okS l) 4 (fun k hk hp => ?_) (fun k hk hp => ?_) (by simp [f12_0, f12_0_0]) (by omega)
    all_goals
      have hx := get_some (l := l) (i := k) (by omega)
      have h1 : (k : Int) < 4 := by omega
      have h0 : (0 : Int) ≤ k ∧ (k : Int) < 4 := by omega
      have w2 : IntKind.i64.wrap ((k : Int) + 1) = ((k + 1 : Nat) : Int) := by rw [wrap64 (by omega) (by omega)]; rfl
      generalize hxv : l.getD k 0 = x at hx
      simp only [okS, hxv, decide_eq_true_eq, decide_eq_false_iff_not] at hp
      simp only [f12_0, f12_0_0, asI_i, asL_l, asE_nil, Bool.cond_decide, if_pos h1, if_pos h0, Int.toNat_natCast, hx, optK_some, w2]
    · rw [if_neg (by omega), if_neg (by omega)]
    · by_cases hn : x < 0
      · rw [if_pos hn]
      · rw [if_neg hn, if_pos (by omega)]
  simp only [g12, g12_0, asL_l, asE_nil, if_pos (show 4 ≤ l.length by omega), ht, hl]
  cases rightB l <;> simp
theorem rightL_ok (l : List Int) (h : l.length = 4) : g9 (0, [.l l]) = some (0, [.b (rightB l)]) := by
  have hl : L9_0 (0, [.i 0, .l l]) = if rightB l then some (0, [.l l]) else some (1, [.l l]) := by
    refine loop1_all (fun k => [.i k, .l l]) (okS l) 4 (fun k hk hp => ?_) (fun k hk hp => ?_) (by simp [f9_0, f9_0_0]) (by omega)
    all_goals
      have hx := get_some (l := l) (i := k) (by omega)
      have h1 : (k : Int) < 4 := by omega
      have h0 : (0 : Int) ≤ k ∧ (k : Int) < 4 := by omega
      have w2 : IntKind.i64.wrap ((k : Int) + 1) = ((k + 1 : Nat) : Int) := by rw [wrap64 (by omega) (by omega)]; rfl
      generalize hxv : l.getD k 0 = x at hx
      simp only [okS, hxv, decide_eq_true_eq, decide_eq_false_iff_not] at hp
      simp only [f9_0, f9_0_0, asI_i, asL_l, asE_nil, Bool.cond_decide, if_pos h1, if_pos h0, Int.toNat_natCast, hx, optK_some, w2]
    · rw [if_neg (by omega), if_neg (by omega)]
    · by_cases hn : x < 0
      · rw [if_pos hn]
      · rw [if_neg hn, if_pos (by omega)]
  simp only [g9, g9_0, asL_l, asE_nil, hl]
  cases rightB l <;> simp
/-- The numbers that steps are. -/
def valsL (q s : List Int) : List Int := (List.range 16).map fun k => IntKind.i64.wrap (q.getD k 0 * ((2 ^ (s.getD (k / 4) 0).toNat : Nat) : Int))
theorem okS_of {l : List Int} (h : rightB l = true) {k : Nat} (hk : k < 4) : 0 ≤ l.getD k 0 ∧ l.getD k 0 ≤ 23 := by
  have := List.all_eq_true.1 h k (List.mem_range.2 hk)
  simpa [okS] using this
theorem valsL_len (q s : List Int) : (valsL q s).length = 16 := by simp [valsL]
theorem values_ok (q s : List Int) (hq : q.length = 16) (hs : s.length = 4) : g8 (0, [.l q, .l s]) = some (0, [.l (if rightB s then valsL q s else List.replicate 16 0)]) := by
  have ht : List.take 4 s = s := List.take_of_length_le (by omega)
  by_cases hr : rightB s = true
  · have hl : ∀ z, L8_0 (0, [.i 0, .l q, .l s, .l z]) = some (0, [.l (valsL q s), .l s, .l z]) := by
      intro z
      have hv : (valsL q s).length = q.length := by rw [valsL_len, hq]
      have := loop1_run (f := f8_0) (fun k => [.i k, .l (mix (valsL q s) q k), .l s, .l z]) 16 (j := 0) (r := [.l (valsL q s), .l s, .l z]) (fun k hk => ?_) ?_ (by omega)
      · rw [mix_zero] at this; exact this
      · have h1 : (k : Int) < 16 := by omega
        have h0 : (0 : Int) ≤ k ∧ (k : Int) < 16 := by omega
        have w2 : IntKind.i64.wrap ((k : Int) + 1) = ((k + 1 : Nat) : Int) := by rw [wrap64 (by omega) (by omega)]; rfl
        have hx := (mix_get hv (k := k) (by omega)).trans (get_some (by omega))
        have hsx := get_some (l := s) (i := k / 4) (by omega)
        have hb := band_ok k hk
        have hok := okS_of hr (k := k / 4) (by omega)
        have hst : g20 (0, [.i (s.getD (k / 4) 0)]) = some (0, [.i ((2 ^ (s.getD (k / 4) 0).toNat : Nat) : Int)]) := by
          have := step_ok (s.getD (k / 4) 0).toNat (by omega)
          rwa [Int.toNat_of_nonneg hok.1] at this
        have hb4 : (0 : Int) ≤ ((k / 4 : Nat) : Int) ∧ ((k / 4 : Nat) : Int) < 4 := by omega
        have hlen : k < (mix (valsL q s) q k).length := by rw [mix_len hv]; omega
        have hset := mix_set hv (k := k) (by omega) (x := IntKind.i64.wrap (q.getD k 0 * ((2 ^ (s.getD (k / 4) 0).toNat : Nat) : Int))) (by simp [valsL, hk])
        simp only [f8_0, f8_0_0, asI_i, asL_l, asE_nil, Bool.cond_decide, if_pos h1, if_pos h0, Int.toNat_natCast, hx, optK_some, hb, altK_0, if_pos hb4, hsx, hst, w2, if_pos hlen, hset]
      · have : mix (valsL q s) q 16 = valsL q s := by rw [← hq]; exact mix_all hv
        simp [f8_0, f8_0_0, this]
    have ht2 : List.take 16 (valsL q s) = valsL q s := List.take_of_length_le (by rw [valsL_len]; omega)
    simp only [g8, g8_0, asL_l, asE_nil, asB_b, if_pos (show 4 ≤ s.length by omega), ht, rightP_ok s hs, hr, hl, altK_0, Bool.not_true, cond_false, valsL_len, ht2]
    simp [valsL_len, List.take_append_of_le_length, ht2]
  · have hr : rightB s = false := by simpa using hr
    simp only [g8, g8_0, asL_l, asE_nil, asB_b, if_pos (show 4 ≤ s.length by omega), ht, rightP_ok s hs, hr, altK_0, Bool.not_false, cond_true]
    rfl
/-- THE LAW. -/
theorem qvalues (q s : List Int) (hq : q.length = 16) (hs : s.length = 4) : g3 (0, [.l q, .l s]) = some (0, [.b true]) := by
  have ht : List.take 4 s = s := List.take_of_length_le (by omega)
  have ht2 : List.take 16 q = q := List.take_of_length_le (by omega)
  have near : L3_0 (0, [.i 0, .l q, .l s]) = some (0, [.l q, .l s]) ∨ L3_0 (0, [.i 0, .l q, .l s]) = some (1, [.b true, .l q, .l s]) := by
    have := loop1_all (f := f3_0) (fun k => [.i k, .l q, .l s]) (fun k => decide (-4294967296 ≤ q.getD k 0 ∧ q.getD k 0 ≤ 4294967296)) (r1 := [.l q, .l s]) (r2 := [.b true, .l q, .l s]) 16 (fun k hk hp => ?_) (fun k hk hp => ?_) (by simp [f3_0, f3_0_0]) (by omega)
    · rw [show L3_0 (0, [.i 0, .l q, .l s]) = _ from this]
      split
      · exact .inl rfl
      · exact .inr rfl
    all_goals
      have hx := get_some (l := q) (i := k) (by omega)
      have h1 : (k : Int) < 16 := by omega
      have h0 : (0 : Int) ≤ k ∧ (k : Int) < 16 := by omega
      have w2 : IntKind.i64.wrap ((k : Int) + 1) = ((k + 1 : Nat) : Int) := by rw [wrap64 (by omega) (by omega)]; rfl
      generalize q.getD k 0 = x at hx hp
      simp only [decide_eq_true_eq, decide_eq_false_iff_not] at hp
      simp only [f3_0, f3_0_0, asI_i, asL_l, asE_nil, asB_b, altK_0, awake7, Bool.cond_decide, if_pos h1, if_pos h0, Int.toNat_natCast, hx, optK_some, w2]
    · rw [if_neg (by omega), if_neg (by omega)]
    · by_cases hn : x < -4294967296
      · rw [if_pos hn]
      · rw [if_neg hn, if_pos (by omega)]
  rcases near with near | near
  · have hv := values_ok q s hq hs
    generalize hV : (if rightB s then valsL q s else List.replicate 16 0) = v at hv
    have hvl : v.length = 16 := by rw [← hV]; split <;> simp [valsL]
    have hcmp : L3_1 (0, [.i 0, .l q, .l s, .l v]) = some (0, [.l q, .l s, .l v]) := by
      refine loop1_run (f := f3_1) (fun k => [.i k, .l q, .l s, .l v]) 16 (fun k hk => ?_) (by simp [f3_1, f3_1_0]) (by omega)
      have hx := get_some (l := q) (i := k) (by omega)
      have hsx := get_some (l := s) (i := k / 4) (by omega)
      have h1 : (k : Int) < 16 := by omega
      have h0 : (0 : Int) ≤ k ∧ (k : Int) < 16 := by omega
      have w2 : IntKind.i64.wrap ((k : Int) + 1) = ((k + 1 : Nat) : Int) := by rw [wrap64 (by omega) (by omega)]; rfl
      have w4 : IntKind.i64.wrap (Int.tdiv k 4) = ((k / 4 : Nat) : Int) := by rw [show Int.tdiv (k : Int) 4 = ((k / 4 : Nat) : Int) from rfl]; exact wrap64 (by omega) (by omega)
      have hb4 : (0 : Int) ≤ ((k / 4 : Nat) : Int) ∧ ((k / 4 : Nat) : Int) < 4 := by omega
      have hr := rightL_ok s hs
      by_cases hrs : rightB s = true
      · have hok := okS_of hrs (k := k / 4) (by omega)
        have hp : g10 (0, [.i (s.getD (k / 4) 0)]) = some (0, [.i ((2 ^ (s.getD (k / 4) 0).toNat : Nat) : Int)]) := by
          have := power_ok (s.getD (k / 4) 0).toNat (by omega)
          rwa [Int.toNat_of_nonneg hok.1] at this
        have hvx : v[k]? = some (IntKind.i64.wrap (q.getD k 0 * ((2 ^ (s.getD (k / 4) 0).toNat : Nat) : Int))) := by
          rw [← hV, if_pos hrs]; simp [valsL, hk]
        simp only [f3_1, f3_1_0, asI_i, asL_l, asE_nil, asB_b, altK_0, Bool.cond_decide, if_pos h1, if_pos h0, if_pos (show 4 ≤ s.length by omega), ht, hr, hrs, cond_true, Int.toNat_natCast, hx, optK_some, w2, w4, if_pos hb4, hsx, hp, hvx, ne_eq, not_true_eq_false, if_false]
      · have hrs : rightB s = false := by simpa using hrs
        have hvx : v[k]? = some 0 := by
          rw [← hV, hrs]
          show (List.replicate 16 (0 : Int))[k]? = some 0
          rw [List.getElem?_replicate, if_pos hk]
        simp only [f3_1, f3_1_0, asI_i, asL_l, asE_nil, asB_b, altK_0, Bool.cond_decide, if_pos h1, if_pos h0, if_pos (show 4 ≤ s.length by omega), ht, hr, hrs, cond_false, Int.toNat_natCast, optK_some, w2, hvx, ne_eq, not_true_eq_false, if_false]
    simp only [g3, g3_0, asL_l, asE_nil, asB_b, near, altK_0, altK_1, if_pos (show 16 ≤ q.length by omega), if_pos (show 4 ≤ s.length by omega), ht, ht2, hv, hvl, if_true, Nat.zero_add, Nat.le_refl]
    have : v ++ List.drop 16 [(0 : Int), 0, 0, 0, 0, 0, 0, 0, 0, 0, 0, 0, 0, 0, 0, 0] = v := by simp
    simp only [this, hcmp, altK_0, asL_l, asE_nil, awake7, asB_b]
  · simp only [g3, g3_0, asL_l, asE_nil, asB_b, near, altK_1]
theorem qvalues_ev (q s : List Int) (hq : q.length = 16) (hs : s.length = 4) : ∃ d, evF tab d 3 [.ints .i64 q, .ints .i64 s] [] = some (.bool true, [], []) :=
  ⟨_, (ok3 0).ret (i := 0) (ls := [.l q, .l s]) (j := 0) (r := [.b true]) (qvalues q s hq hs) rfl rfl rfl rfl⟩
end Go.Proofs.Ytmankoejlflhmaa
