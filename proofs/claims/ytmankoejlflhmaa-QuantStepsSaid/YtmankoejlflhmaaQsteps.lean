/-
  The law of the steps that numbers are put to. Conditions: none.
-/
import Derived.Test.YtmankoejlflhmaaQnoise
import Derived.Test.YtmankoejlflhmaaNear
namespace Go.Proofs.Ytmankoejlflhmaa
open Go Go.Sx
set_option maxRecDepth 100000
set_option linter.unusedVariables false
attribute [local simp] asI_i asB_b asL_l asN_n asS_s asE_nil altK_none altK_0 altK_1 altK_2 altK_3 optK_some optK_none Bool.cond_decide Bool.cond_not Int.toNat_natCast
set_option linter.unusedSimpArgs false
def nearV (v : Int) (n : Nat) : Int := if n = 0 then v else if ((2 ^ (n - 1) : Nat) : Int) ≤ Int.tmod v ((2 ^ n : Nat) : Int) then Int.tdiv v ((2 ^ n : Nat) : Int) + 1 else if Int.tmod v ((2 ^ n : Nat) : Int) ≤ -((2 ^ (n - 1) : Nat) : Int) then Int.tdiv v ((2 ^ n : Nat) : Int) - 1 else Int.tdiv v ((2 ^ n : Nat) : Int)
theorem tdiv_of {a b m : Int} (ha : 0 ≤ a) (hb : 0 < b) (h1 : b * m ≤ a) (h2 : a < b * m + b) : Int.tdiv a b = m := by
  rw [Int.tdiv_eq_ediv_of_nonneg ha]
  have e : a = (a - b * m) + b * m := by omega
  rw [e, Int.add_mul_ediv_left _ _ (by omega), Int.ediv_eq_zero_of_lt (by omega) (by omega)]
  omega
theorem tmod_nonpos {a b : Int} (h : a ≤ 0) : Int.tmod a b ≤ 0 := by
  have h1 := Int.tmod_nonneg (a := -a) b (by omega)
  rw [Int.neg_tmod] at h1
  omega
/-- What the nearest step is. -/
theorem nearV_spec (x : Int) (n : Nat) (hn : n ≤ 23) (hx : -1099511627776 ≤ x ∧ x ≤ 1099511627776) : ∀ p m : Int, p = ((2 ^ n : Nat) : Int) → m = nearV x n →
    (1 ≤ p ∧ p ≤ 8388608) ∧ (0 ≤ x → Int.tdiv (2 * x + p) (2 * p) = m) ∧ (x < 0 → Int.tdiv (2 * (0 - x) + p) (2 * p) = -m) ∧ (-(Int.tdiv p 2) ≤ m * p - x ∧ m * p - x ≤ Int.tdiv p 2) ∧ (-2199023255552 ≤ m ∧ m ≤ 2199023255552) ∧ (0 ≤ Int.tdiv p 2 ∧ Int.tdiv p 2 ≤ 4194304) := by
  intro p m hp hm
  have hpl : 1 ≤ p ∧ p ≤ 8388608 := by
    have h1 : 2 ^ n ≤ 2 ^ 23 := Nat.pow_le_pow_right (by omega) hn
    have h2 : 0 < 2 ^ n := Nat.pow_pos (by omega)
    have h3 : (2 : Nat) ^ 23 = 8388608 := by decide
    omega
  obtain ⟨e, r1, r2, _, _, _⟩ := parts (v := x) (P := p) hpl.1 (by omega)
  have sg1 : 0 ≤ x → 0 ≤ Int.tmod x p := fun h => Int.tmod_nonneg p h
  have sg2 : x < 0 → Int.tmod x p ≤ 0 := fun h => tmod_nonpos (by omega)
  have hv : ∃ h : Int, Int.tdiv p 2 = h ∧ 0 ≤ h ∧ (n = 0 → p = 1 ∧ h = 0) ∧ (n ≠ 0 → p = 2 * h ∧ ((2 ^ (n - 1) : Nat) : Int) = h) := by
    refine ⟨_, rfl, ?_, ?_, ?_⟩
    · exact Int.tdiv_nonneg (by omega) (by omega)
    · intro h0; subst h0; subst hp; exact ⟨rfl, rfl⟩
    · intro h0
      have h2 : 2 ^ n = 2 * 2 ^ (n - 1) := by rw [← Nat.pow_succ', Nat.succ_eq_add_one, Nat.sub_add_cancel (by omega)]
      have : p = 2 * ((2 ^ (n - 1) : Nat) : Int) := by omega
      have h3 : Int.tdiv p 2 = ((2 ^ (n - 1) : Nat) : Int) := by rw [this, Int.mul_comm, Int.mul_tdiv_cancel _ (by omega)]
      rw [h3]; exact ⟨this, rfl⟩
  obtain ⟨h, eh, h0, hz, hnz⟩ := hv
  have hm2 : m = if n = 0 then x else if h ≤ Int.tmod x p then Int.tdiv x p + 1 else if Int.tmod x p ≤ -h then Int.tdiv x p - 1 else Int.tdiv x p := by
    rw [hm]; unfold nearV
    by_cases c : n = 0
    · rw [if_pos c, if_pos c]
    · rw [if_neg c, if_neg c, (hnz c).2, ← hp]
  clear hm
  rw [eh]
  have bnd : -h ≤ m * p - x ∧ m * p - x ≤ h ∧ (0 ≤ x → 0 ≤ m ∧ (2 * p) * m ≤ 2 * x + p ∧ 2 * x + p < (2 * p) * m + 2 * p) ∧ (x < 0 → m ≤ 0 ∧ (2 * p) * (-m) ≤ 2 * (0 - x) + p ∧ 2 * (0 - x) + p < (2 * p) * (-m) + 2 * p) := by
    have t1 : ∀ y : Int, (2 * p) * y = 2 * (p * y) := fun y => by rw [Int.mul_assoc]
    have t2 : ∀ y : Int, (2 * p) * (-y) = -(2 * (p * y)) := fun y => by rw [Int.mul_neg, Int.mul_assoc]
    have t3 : m * p = p * m := Int.mul_comm _ _
    rw [t1, t2, t3]
    have key : ∀ Z : Int, p * m = Z → (-h ≤ Z - x ∧ Z - x ≤ h) → (0 ≤ x → x - p < Z ∧ 2 * Z ≤ 2 * x + p ∧ 2 * x + p < 2 * Z + 2 * p) → True := fun _ _ _ _ => trivial
    by_cases c : n = 0
    · obtain ⟨a1, a2⟩ := hz c
      rw [if_pos c] at hm2
      subst hm2
      subst a1
      rw [Int.one_mul]
      omega
    · obtain ⟨a1, a2⟩ := hnz c
      rw [if_neg c] at hm2
      have mq : ∀ q : Int, 0 ≤ q ∨ q ≤ -1 := fun q => by omega
      generalize Int.tmod x p = r at *
      generalize Int.tdiv x p = q at *
      have z1 : p * (q + 1) = p * q + p := by rw [Int.mul_add, Int.mul_one]
      have z2 : p * (q - 1) = p * q - p := by rw [Int.mul_sub, Int.mul_one]
      have pos : 0 ≤ q → 0 ≤ p * q := fun hq => Int.mul_nonneg (by omega) hq
      have neg : q ≤ -1 → p * q ≤ -p := fun hq => by
        have := Int.mul_le_mul_of_nonneg_left hq (show 0 ≤ p by omega)
        omega
      have pos1 : 1 ≤ q → p ≤ p * q := fun hq => by
        have := Int.mul_le_mul_of_nonneg_left hq (show 0 ≤ p by omega)
        omega
      by_cases c1 : h ≤ r
      · rw [if_pos c1] at hm2
        subst hm2
        rw [z1]
        rcases mq q with hq | hq
        · have := pos hq; omega
        · have := neg hq; omega
      · rw [if_neg c1] at hm2
        by_cases c2 : r ≤ -h
        · rw [if_pos c2] at hm2
          subst hm2
          rw [z2]
          by_cases hq : 1 ≤ q
          · have := pos1 hq; omega
          · rcases mq q with hq | hq
            · have := pos hq; omega
            · have := neg hq; omega
        · rw [if_neg c2] at hm2
          rw [hm2]
          rcases mq q with hq | hq
          · have := pos hq
            by_cases hq1 : 1 ≤ q
            · have := pos1 hq1; omega
            · have hq0 : q = 0 := by omega
              subst hq0
              rw [Int.mul_zero] at *
              omega
          · have := neg hq; omega
  obtain ⟨b1, b2, b3, b4⟩ := bnd
  refine ⟨hpl, fun hx0 => ?_, fun hx0 => ?_, ⟨b1, b2⟩, ?_, ?_⟩
  · obtain ⟨_, c2, c3⟩ := b3 hx0
    exact tdiv_of (by omega) (by omega) c2 c3
  · obtain ⟨_, c2, c3⟩ := b4 hx0
    exact tdiv_of (by omega) (by omega) c2 c3
  · have u1 : 0 ≤ m → m ≤ m * p := fun hm0 => by
      have := Int.mul_le_mul_of_nonneg_left hpl.1 hm0
      omega
    have u2 : m ≤ 0 → m * p ≤ m := fun hm0 => by
      have := Int.mul_le_mul_of_nonneg_left hpl.1 (show 0 ≤ -m by omega)
      simp only [Int.neg_mul, Int.mul_one] at this
      omega
    have hh : h ≤ 8388608 := by
      by_cases c : n = 0
      · have := hz c; omega
      · have := hnz c; omega
    by_cases hm0 : 0 ≤ m
    · have := u1 hm0; omega
    · have := u2 (by omega); omega
  · by_cases c : n = 0
    · have := hz c; omega
    · have := hnz c; omega
theorem near_eq (v : Int) (n : Nat) (hn : n ≤ 62) (hv : -9223372036854775808 ≤ v ∧ v ≤ 9223372036854775807) : g21 (0, [.i v, .i n]) = some (0, [.i (nearV v n)]) := near_ok v n hn hv
def stepsL (b s : List Int) : List Int := (List.range 16).map fun k => nearV (b.getD k 0) (s.getD (k / 4) 0).toNat
theorem stepsL_len (b s : List Int) : (stepsL b s).length = 16 := by simp [stepsL]
theorem steps_ok (q s : List Int) (hq : q.length = 16) (hs : s.length = 4) (hw : ∀ k, k < 16 → -9223372036854775808 ≤ q.getD k 0 ∧ q.getD k 0 ≤ 9223372036854775807) : g11 (0, [.l q, .l s]) = some (0, [.l (if rightB s then stepsL q s else List.replicate 16 0)]) := by
  have ht : List.take 4 s = s := List.take_of_length_le (by omega)
  by_cases hr : rightB s = true
  · have hl : ∀ z, L11_0 (0, [.i 0, .l q, .l s, .l z]) = some (0, [.l (stepsL q s), .l s, .l z]) := by
      intro z
      have hv : (stepsL q s).length = q.length := by rw [stepsL_len, hq]
      have := loop1_run (f := f11_0) (fun k => [.i k, .l (mix (stepsL q s) q k), .l s, .l z]) 16 (j := 0) (r := [.l (stepsL q s), .l s, .l z]) (fun k hk => ?_) ?_ (by omega)
      · rw [mix_zero] at this; exact this
      · have h1 : (k : Int) < 16 := by omega
        have h0 : (0 : Int) ≤ k ∧ (k : Int) < 16 := by omega
        have w2 : IntKind.i64.wrap ((k : Int) + 1) = ((k + 1 : Nat) : Int) := wrap_nat (n := k + 1) (by omega)
        have hx := (mix_get hv (k := k) (by omega)).trans (get_some (by omega))
        have hsx := get_some (l := s) (i := k / 4) (by omega)
        have hb := band_ok k hk
        have hok := okS_of hr (k := k / 4) (by omega)
        have hst : g21 (0, [.i (q.getD k 0), .i (s.getD (k / 4) 0)]) = some (0, [.i (nearV (q.getD k 0) (s.getD (k / 4) 0).toNat)]) := by
          have := near_eq (q.getD k 0) (s.getD (k / 4) 0).toNat (by omega) (hw k hk)
          rwa [Int.toNat_of_nonneg hok.1] at this
        have hb4 : (0 : Int) ≤ ((k / 4 : Nat) : Int) ∧ ((k / 4 : Nat) : Int) < 4 := by omega
        have hlen : k < (mix (stepsL q s) q k).length := by rw [mix_len hv]; omega
        have hset := mix_set hv (k := k) (by omega) (x := nearV (q.getD k 0) (s.getD (k / 4) 0).toNat) (by simp [stepsL, hk])
        simp -implicitDefEqProofs only [f11_0, f11_0_0, asI_i, asL_l, asE_nil, Bool.cond_decide, if_pos h1, if_pos h0, Int.toNat_natCast, hx, optK_some, hb, altK_0, if_pos hb4, hsx, hst, w2, if_pos hlen, hset]
      · have : mix (stepsL q s) q 16 = stepsL q s := by rw [← hq]; exact mix_all hv
        simp -implicitDefEqProofs only [f11_0, f11_0_0, asI_i, asL_l, asE_nil, Bool.cond_decide, this]
        rfl
    have ht2 : List.take 16 (stepsL q s) = stepsL q s := List.take_of_length_le (by rw [stepsL_len]; omega)
    have hz : ([0, 0, 0, 0, 0, 0, 0, 0, 0, 0, 0, 0, 0, 0, 0, 0] : List Int).length = 16 := rfl
    have hz2 : List.drop 16 ([0, 0, 0, 0, 0, 0, 0, 0, 0, 0, 0, 0, 0, 0, 0, 0] : List Int) = [] := rfl
    simp -implicitDefEqProofs only [g11, g11_0, asL_l, asE_nil, asB_b, if_pos (show 4 ≤ s.length by omega), ht, rightP_ok s hs, hr, hl, altK_0, Bool.not_true, cond_false, stepsL_len, ht2, Nat.zero_add, hz, hz2, List.append_nil, Nat.le_refl, if_true]
  · have hr : rightB s = false := by simpa using hr
    simp -implicitDefEqProofs only [g11, g11_0, asL_l, asE_nil, asB_b, if_pos (show 4 ≤ s.length by omega), ht, rightP_ok s hs, hr, altK_0, Bool.not_false, cond_true]
    rfl
theorem half_eq (n : Nat) (hn : n ≤ 23) : halfV n = IntKind.i64.wrap (Int.tdiv ((2 ^ n : Nat) : Int) 2) := by
  unfold halfV
  by_cases h : n = 0
  · subst h; rfl
  · rw [if_pos (by omega), Int.toNat_natCast]
/-- A round of the law's loop. -/
theorem round4 (b s : List Int) (k : Nat) (hk : k < 16) (hb : b.length = 16) (hs : s.length = 4) (hn : nearB b = true) (hr : rightB s = true) : f4_0 (0, [.i k, .l b, .l s, .l (stepsL b s), .l (valsL (stepsL b s) s)]) = some (0, [.i (k + 1 : Nat), .l b, .l s, .l (stepsL b s), .l (valsL (stepsL b s) s)]) := by
  have hx := get_some (l := b) (i := k) (by omega)
  have hsx := get_some (l := s) (i := k / 4) (by omega)
  have hok := okS_of hr (k := k / 4) (by omega)
  have oN := okN_of hn hk
  have hq : (stepsL b s)[k]? = some (nearV (b.getD k 0) (s.getD (k / 4) 0).toNat) := by simp [stepsL, hk]
  have hq2 : (stepsL b s).getD k 0 = nearV (b.getD k 0) (s.getD (k / 4) 0).toNat := by rw [List.getD_eq_getElem?_getD, hq]; rfl
  have hv : (valsL (stepsL b s) s)[k]? = some (IntKind.i64.wrap (nearV (b.getD k 0) (s.getD (k / 4) 0).toNat * ((2 ^ (s.getD (k / 4) 0).toNat : Nat) : Int))) := by
    have : (valsL (stepsL b s) s)[k]? = some (IntKind.i64.wrap ((stepsL b s).getD k 0 * ((2 ^ (s.getD (k / 4) 0).toNat : Nat) : Int))) := by simp [valsL, hk]
    rw [this, hq2]
  have h1 : (k : Int) < 16 := by omega
  have h0 : (0 : Int) ≤ k ∧ (k : Int) < 16 := by omega
  have w2 : IntKind.i64.wrap ((k : Int) + 1) = ((k + 1 : Nat) : Int) := wrap_nat (n := k + 1) (by omega)
  have w4 : IntKind.i64.wrap (Int.tdiv k 4) = ((k / 4 : Nat) : Int) := by rw [show Int.tdiv (k : Int) 4 = ((k / 4 : Nat) : Int) from rfl]; exact wrap64 (by omega) (by omega)
  have hb4 : (0 : Int) ≤ ((k / 4 : Nat) : Int) ∧ ((k / 4 : Nat) : Int) < 4 := by omega
  have hp : g10 (0, [.i (s.getD (k / 4) 0)]) = some (0, [.i ((2 ^ (s.getD (k / 4) 0).toNat : Nat) : Int)]) := by
    have := power_ok (s.getD (k / 4) 0).toNat (by omega)
    rwa [Int.toNat_of_nonneg hok.1] at this
  have hh : g14 (0, [.i (s.getD (k / 4) 0)]) = some (0, [.i (IntKind.i64.wrap (Int.tdiv ((2 ^ (s.getD (k / 4) 0).toNat : Nat) : Int) 2))]) := by
    rw [half_any, ← half_eq _ (by omega), Int.toNat_of_nonneg hok.1]
  obtain ⟨hpl, d1, d2, ⟨c1, c2⟩, hm, hhl⟩ := nearV_spec (b.getD k 0) (s.getD (k / 4) 0).toNat (by omega) oN _ _ rfl rfl
  generalize nearV (b.getD k 0) (s.getD (k / 4) 0).toNat = m at *
  generalize ((2 ^ (s.getD (k / 4) 0).toNat : Nat) : Int) = p at *
  generalize b.getD k 0 = x at *
  generalize s.getD (k / 4) 0 = sv at *
  have wh : IntKind.i64.wrap (Int.tdiv p 2) = Int.tdiv p 2 := wrap64 (by omega) (by omega)
  have wh0 : IntKind.i64.wrap (0 - Int.tdiv p 2) = 0 - Int.tdiv p 2 := wrap64 (by omega) (by omega)
  have wp : IntKind.i64.wrap (2 * p) = 2 * p := wrap64 (by omega) (by omega)
  have wm : IntKind.i64.wrap (m * p) = m * p := wrap64 (by omega) (by omega)
  have wmx : IntKind.i64.wrap (m * p - x) = m * p - x := wrap64 (by omega) (by omega)
  have hp0 : ¬ 2 * p = 0 := by omega
  have hc1 : ¬ Int.tdiv p 2 < m * p - x := by omega
  have hc2 : ¬ m * p - x < 0 - Int.tdiv p 2 := by omega
  have hne : ∀ x : Int, (x ≠ x) = False := fun x => by simp
  rw [wh] at hh
  by_cases hx0 : x < 0
  · have e1 : IntKind.i64.wrap (0 - x) = 0 - x := wrap64 (by omega) (by omega)
    have e2 : IntKind.i64.wrap (2 * (0 - x)) = 2 * (0 - x) := wrap64 (by omega) (by omega)
    have e3 : IntKind.i64.wrap (2 * (0 - x) + p) = 2 * (0 - x) + p := wrap64 (by omega) (by omega)
    have e4 := d2 hx0
    have e5 : IntKind.i64.wrap (-m) = -m := wrap64 (by omega) (by omega)
    have e6 : IntKind.i64.wrap (0 - -m) = m := by rw [wrap64 (by omega) (by omega)]; omega
    simp -implicitDefEqProofs only [f4_0, f4_0_0, asI_i, asL_l, asE_nil, Bool.cond_decide, if_pos h1, if_pos h0, w2, w4, if_pos hb4, Int.toNat_natCast, hx, hsx, optK_some, hp, altK_0, if_pos hx0, wp, if_neg hp0, hq, hv, e1, e2, e3, e4, e5, e6, wm, wmx, hne, if_false, wh, wh0, if_neg hc1, if_neg hc2, hh]
  · have e2 : IntKind.i64.wrap (2 * x) = 2 * x := wrap64 (by omega) (by omega)
    have e3 : IntKind.i64.wrap (2 * x + p) = 2 * x + p := wrap64 (by omega) (by omega)
    have e4 := d1 (by omega)
    have e5 : IntKind.i64.wrap m = m := wrap64 (by omega) (by omega)
    simp -implicitDefEqProofs only [f4_0, f4_0_0, asI_i, asL_l, asE_nil, Bool.cond_decide, if_pos h1, if_pos h0, w2, w4, if_pos hb4, Int.toNat_natCast, hx, hsx, optK_some, hp, altK_0, if_neg hx0, wp, if_neg hp0, hq, hv, e2, e3, e4, e5, wm, wmx, hne, if_false, wh, wh0, if_neg hc1, if_neg hc2, hh]
theorem qsteps (b s : List Int) (hb : b.length = 16) (hs : s.length = 4) (hw : ∀ k, k < 16 → -9223372036854775808 ≤ b.getD k 0 ∧ b.getD k 0 ≤ 9223372036854775807) : g4 (0, [.l b, .l s]) = some (0, [.b true]) := by
  have ht : List.take 4 s = s := List.take_of_length_le (by omega)
  have ht2 : List.take 16 b = b := List.take_of_length_le (by omega)
  have hst := steps_ok b s hb hs hw
  generalize hQ : (if rightB s then stepsL b s else List.replicate 16 0) = Q at hst
  have hQl : Q.length = 16 := by rw [← hQ]; split <;> simp [stepsL]
  have hvl := values_ok Q s hQl hs
  generalize hV : (if rightB s then valsL Q s else List.replicate 16 0) = V at hvl
  have hVl : V.length = 16 := by rw [← hV]; split <;> simp [valsL]
  have z2 : List.drop 16 ([0, 0, 0, 0, 0, 0, 0, 0, 0, 0, 0, 0, 0, 0, 0, 0] : List Int) = [] := rfl
  have tQ : List.take 16 Q = Q := List.take_of_length_le (by omega)
  have tV : List.take 16 V = V := List.take_of_length_le (by omega)
  have hne : ∀ x : Bool, (x ≠ x) = False := fun x => by simp
  simp -implicitDefEqProofs only [g4, g4_0, asL_l, asE_nil, asB_b, if_pos (show 16 ≤ b.length by omega), if_pos (show 4 ≤ s.length by omega), ht, ht2, hst, altK_0, hQl, Nat.zero_add, z2, List.append_nil, tQ, hvl, hVl, Nat.le_refl, if_true, rightP_ok s hs, rightL_ok s hs, hne, if_false, Bool.cond_decide, near13 b hb, tV]
  cases hr : rightB s
  · rw [hr] at hQ hV
    have q0 : Q = [0, 0, 0, 0, 0, 0, 0, 0, 0, 0, 0, 0, 0, 0, 0, 0] := hQ.symm
    have v0 : V = [0, 0, 0, 0, 0, 0, 0, 0, 0, 0, 0, 0, 0, 0, 0, 0] := hV.symm
    simp -implicitDefEqProofs only [Bool.not_false, cond_true, if_pos q0, if_pos v0, awakeL_ok, altK_0, asB_b, asE_nil]
  · cases hn : nearB b
    · simp -implicitDefEqProofs only [Bool.not_false, Bool.not_true, cond_false, cond_true, awakeL_ok, altK_0, asB_b, asE_nil]
    · rw [hr, if_pos rfl] at hQ hV
      subst hQ
      subst hV
      have hl : L4_0 (0, [.i 0, .l b, .l s, .l (stepsL b s), .l (valsL (stepsL b s) s)]) = some (0, [.l b, .l s, .l (stepsL b s), .l (valsL (stepsL b s) s)]) := by
        refine loop1_run (f := f4_0) (fun k => [.i k, .l b, .l s, .l (stepsL b s), .l (valsL (stepsL b s) s)]) 16 (fun k hk => round4 b s k hk hb hs hn hr) ?_ (by omega)
        simp -implicitDefEqProofs only [f4_0, f4_0_0, asI_i, asL_l, asE_nil, Bool.cond_decide]
        rfl
      simp -implicitDefEqProofs only [Bool.not_true, cond_false, hl, awakeL_ok, altK_0, asB_b, asL_l, asE_nil]
theorem qsteps_ev (b s : List Int) (hb : b.length = 16) (hs : s.length = 4) (hw : ∀ x ∈ b, (Lit.int .i64 x).wf = true) : ∃ d, evF tab d 4 [.ints .i64 b, .ints .i64 s] [] = some (.bool true, [], []) :=
  ⟨_, (ok4 0).ret (i := 0) (ls := [.l b, .l s]) (j := 0) (r := [.b true]) (qsteps b s hb hs fun k hk => by
    have hx := get_some (l := b) (i := k) (by omega)
    have := wf64 (hw _ (List.mem_of_getElem? hx))
    omega) rfl rfl rfl rfl⟩
end Go.Proofs.Ytmankoejlflhmaa
