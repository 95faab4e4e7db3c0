/-
  The law of samples at another rate. Conditions: none.
-/
import Derived.Test.YtkbjemencmaloaaRateAt
namespace Go.Proofs.Ytkbjemencmaloaa
open Go Go.Sx
set_option maxRecDepth 100000
set_option linter.unusedVariables false
attribute [local simp] asI_i asB_b asL_l asN_n asS_s asE_nil altK_none altK_0 altK_1 altK_2 altK_3 optK_some optK_none Bool.cond_decide Bool.cond_not Int.toNat_natCast
set_option linter.unusedSimpArgs false
theorem shl32 (a : Int) : shlI .i64 a 32 = IntKind.i64.wrap (a * 4294967296) := by cases a <;> rfl
theorem step_facts (a b : Int) : ∃ s, g6 (0, [.i a, .i b]) = some (0, [.i s]) ∧ g7 (0, [.i a, .i b]) = some (0, [.i s]) ∧ (s = 0 ∨ 1 ≤ s ∧ s ≤ 34359738368) ∧ (a = b → s = 0 ∨ s = 4294967296) := by
  simp only [g6, g6_0, g7, g7_0, asI_i, asE_nil, Bool.cond_decide]
  simp only [shl32]
  by_cases h1 : a < 1
  · exact ⟨_, if_pos h1, if_pos h1, by omega, by omega⟩
  · simp only [if_neg h1]
    by_cases h2 : 192000 < a
    · exact ⟨_, if_pos h2, if_pos h2, by omega, by omega⟩
    · simp only [if_neg h2]
      by_cases h3 : b < 1
      · exact ⟨_, if_pos h3, if_pos h3, by omega, by omega⟩
      · simp only [if_neg h3]
        by_cases h4 : 192000 < b
        · exact ⟨_, if_pos h4, if_pos h4, by omega, by omega⟩
        · simp only [if_neg h4, if_neg (show ¬ b = 0 by omega)]
          have he : a = b → IntKind.i64.wrap (Int.tdiv (IntKind.i64.wrap (a * 4294967296)) b) = 4294967296 := by
            intro e
            subst e
            rw [wrap64 (x := a * 4294967296) (by omega) (by omega), Int.mul_tdiv_cancel_left _ (by omega)]
            exact wrap64 (by omega) (by omega)
          generalize IntKind.i64.wrap (Int.tdiv (IntKind.i64.wrap (a * 4294967296)) b) = s at *
          by_cases h5 : s < 1
          · exact ⟨_, if_pos h5, if_pos h5, by omega, by omega⟩
          · simp only [if_neg h5]
            by_cases h6 : 34359738368 < s
            · exact ⟨_, if_pos h6, if_pos h6, by omega, by omega⟩
            · exact ⟨_, if_neg h6, if_neg h6, by omega, fun e => Or.inr (he e)⟩
theorem ceil_div {E s : Int} (hE : 1 ≤ E) (hs : 1 ≤ s) : (E - 1) / s + 1 = if E / s * s < E then E / s + 1 else E / s := by
  have h1 := Int.mul_ediv_add_emod E s
  have h2 := Int.emod_nonneg E (show s ≠ 0 by omega)
  have h3 := Int.emod_lt_of_pos E (show 0 < s by omega)
  generalize E / s = q at *
  generalize E % s = r at *
  have e : q * s = s * q := Int.mul_comm _ _
  split
  · rw [div_at (c := q) (by omega) (by omega) (by omega)]
  · have e1 : s * (q - 1) = s * q - s := by rw [Int.mul_sub, Int.mul_one]
    rw [div_at (c := q - 1) (by omega) (by omega) (by omega)]
    omega
theorem length_no (n s : Int) (h : n < 1 ∨ s < 1) : g8 (0, [.i n, .i s]) = some (0, [.i 0]) ∧ g9 (0, [.i n, .i s]) = some (0, [.i 0]) := by
  simp only [g8, g8_0, g9, g9_0, asI_i, asE_nil, Bool.cond_decide]
  by_cases h1 : n < 1
  · exact ⟨if_pos h1, if_pos h1⟩
  · simp only [if_neg h1]
    by_cases h2 : 1048576 < n
    · exact ⟨if_pos h2, if_pos h2⟩
    · simp only [if_neg h2]
      have h3 : s < 1 := by omega
      exact ⟨if_pos h3, if_pos h3⟩
theorem length_ok (n s : Int) (hn : 1 ≤ n ∧ n ≤ 1000000) (hs : 1 ≤ s ∧ s ≤ 34359738368) : ∃ k, g8 (0, [.i n, .i s]) = some (0, [.i k]) ∧ g9 (0, [.i n, .i s]) = some (0, [.i k]) ∧ 1 ≤ k ∧ (s = 4294967296 → k = n) := by
  simp only [g8, g8_0, g9, g9_0, asI_i, asE_nil, Bool.cond_decide]
  simp only [shl32, if_neg (show ¬ n < 1 by omega), if_neg (show ¬ 1048576 < n by omega), if_neg (show ¬ s < 1 by omega), if_neg (show ¬ 34359738368 < s by omega), if_neg (show ¬ s = 0 by omega)]
  have w1 : IntKind.i64.wrap (n * 4294967296) = n * 4294967296 := wrap64 (by omega) (by omega)
  obtain ⟨E, hE⟩ : ∃ E, E = n * 4294967296 := ⟨_, rfl⟩
  rw [← hE] at w1
  simp only [← hE, w1]
  have w2 : IntKind.i64.wrap (E - 1) = E - 1 := wrap64 (by omega) (by omega)
  have d1 : Int.tdiv (E - 1) s = (E - 1) / s := Int.tdiv_eq_ediv_of_nonneg (by omega)
  have d2 : Int.tdiv E s = E / s := Int.tdiv_eq_ediv_of_nonneg (by omega)
  have b1 : 0 ≤ (E - 1) / s ∧ (E - 1) / s ≤ E - 1 := ⟨Int.ediv_nonneg (by omega) (by omega), Int.ediv_le_self _ (by omega)⟩
  have b2 : 0 ≤ E / s ∧ E / s ≤ E := ⟨Int.ediv_nonneg (by omega) (by omega), Int.ediv_le_self _ (by omega)⟩
  have b3 : E / s * s ≤ E := Int.ediv_mul_le E (by omega)
  have b4 : 0 ≤ E / s * s := Int.mul_nonneg b2.1 (by omega)
  have hc := ceil_div (E := E) (s := s) (by omega) (by omega)
  have he : s = 4294967296 → (E - 1) / s + 1 = n := by
    intro e
    subst e
    omega
  simp only [w2, d1, d2, wrap64 (x := (E - 1) / s) (by omega) (by omega), wrap64 (x := E / s) (by omega) (by omega), wrap64 (x := E / s * s) (by omega) (by omega), wrap64 (x := (E - 1) / s + 1) (by omega) (by omega), wrap64 (x := E / s + 1) (by omega) (by omega)]
  refine ⟨_, rfl, ?_, by omega, he⟩
  rw [hc]
  by_cases h5 : E / s * s < E
  · rw [if_pos h5, if_pos h5]
  · rw [if_neg h5, if_neg h5]
theorem hold_ok (x : Int) : g15 (0, [.i x]) = some (0, [.i (satV x)]) := by
  simp -implicitDefEqProofs only [g15, g15_0, asI_i, asE_nil, Bool.cond_decide]
  unfold satV clampV
  repeat' split
  all_goals first | rfl | omega
def convL (l : List Int) (n : Nat) (s : Int) (k : Nat) : List Int := (List.range k).map fun (i : Nat) => rAt l n ((i : Int) * s)
theorem convL_len (l : List Int) (n : Nat) (s : Int) (k : Nat) : (convL l n s k).length = k := by simp [convL]
theorem convL_succ (l : List Int) (n : Nat) (s : Int) (k : Nat) : convL l n s (k + 1) = convL l n s k ++ [rAt l n (k * s)] := by simp [convL, List.range_succ]
theorem convL_get (l : List Int) (n : Nat) (s : Int) {k i : Nat} (h : i < k) : (convL l n s k)[i]? = some (rAt l n (i * s)) := by simp [convL, h]
theorem place_in {s : Int} (hs : 1 ≤ s ∧ s ≤ 34359738368) {k : Nat} (hk : k ≤ 2000) : 0 ≤ (k : Int) * s ∧ (k : Int) * s ≤ 68719476736000 := by
  have h1 : 0 ≤ (k : Int) * s := Int.mul_nonneg (by omega) (by omega)
  have h2 : (k : Int) * s ≤ 2000 * 34359738368 := Int.mul_le_mul (by omega) hs.2 (by omega) (by omega)
  omega
theorem conv_loop (l : List Int) (n : Nat) (hn : l.length = n) (h1 : 1 ≤ n) (hm : n ≤ 1000000) (s : Int) (hs : 1 ≤ s ∧ s ≤ 34359738368) (k : Nat) (hk : 1 ≤ k ∧ k ≤ 2000) :
    L14_0 (0, [.n n, .i s, .i k, .i 0, .l l]) = some (2, [.n k, .l l, .l (convL l n s k)]) := by
  have main := loopL_run (m := 5) (f := f14_0) (fun i => if i = 0 then (0, [.n n, .i s, .i k, .i 0, .l l]) else (2, [.n n, .i s, .n i, .i k, .i i, .l l, .l (convL l n s i)])) k (j := 2) (r := [.n k, .l l, .l (convL l n s k)]) (fun i hi => ?_) ?_ (by omega)
  · unfold L14_0; simpa using main
  · have hp := place_in hs (show i ≤ 2000 by omega)
    have w1 : IntKind.i64.wrap ((i : Int) * s) = i * s := wrap64 (by omega) (by omega)
    have w2 : IntKind.i64.wrap ((i : Int) + 1) = ((i + 1 : Nat) : Int) := wrap_nat (n := i + 1) (by omega)
    have ha := at_ok l n hn h1 hm ((i : Int) * s) (by unfold In64; omega)
    have c1 : (i : Int) < k := by omega
    simp only [Nat.succ_ne_zero, if_false]
    refine ⟨?_, by show 2 < 5; omega⟩
    by_cases h0 : i = 0
    · subst h0
      simp -implicitDefEqProofs only [if_true, f14_0, f14_0_0, asN_n, asI_i, asL_l, asE_nil, Bool.cond_decide]
      have w1' : IntKind.i64.wrap (0 * s) = ((0 : Nat) : Int) * s := w1
      have w2' : IntKind.i64.wrap ((0 : Int) + 1) = ((0 + 1 : Nat) : Int) := w2
      rw [if_pos (by omega), w1', ha, altK_0, w2']
      simp -implicitDefEqProofs only [asI_i, asL_l, asE_nil]
      rfl
    · rw [if_neg h0]
      simp -implicitDefEqProofs only [f14_0, f14_0_2, asN_n, asI_i, asL_l, asE_nil, Bool.cond_decide, if_pos c1, w1, ha, altK_0, w2, convL_len, Nat.mul_one, if_pos (show (i + 1) * 8 ≤ 70368744177664 by omega), if_true, convL_succ]
  · rw [if_neg (by omega)]
    simp -implicitDefEqProofs only [f14_0, f14_0_2, asN_n, asI_i, asL_l, asE_nil, Bool.cond_decide, if_neg (Int.lt_irrefl _)]
theorem rAt_same (l : List Int) (n : Nat) (hn : l.length = n) (hl : ∀ k, -1048576 ≤ l.getD k 0 ∧ l.getD k 0 ≤ 1048576) {i : Nat} (hi : i < n) : rAt l n ((i : Int) * 4294967296) = satV (l.getD i 0) := by
  unfold rAt
  rw [if_neg (by omega)]
  have hp : plcV n ((i : Int) * 4294967296) = i := by
    unfold plcV
    rw [show (i : Int) * 4294967296 / 4294967296 = i by omega, if_neg (by omega)]
  have hg : getV l n (i : Int) = l.getD i 0 := by
    unfold getV
    rw [if_neg (by omega), if_neg (by omega), Int.toNat_natCast]
  rw [hp, hg, show (i : Int) * 4294967296 / 134217728 % 32 = 0 by omega]
  exact blend_0 _ _ _ _ (hl i)
theorem law_loop (h0 l : List Int) (n : Nat) (hn : l.length = n) (h1 : 1 ≤ n) (hm : n ≤ 1000000) (hl : ∀ k, -1048576 ≤ l.getD k 0 ∧ l.getD k 0 ≤ 1048576) (a b s : Int) (hs : 1 ≤ s ∧ s ≤ 34359738368) (k : Nat) (hk : 1 ≤ k ∧ k ≤ 2000) (he : a = b → s = 4294967296 ∧ k = n) :
    L5_0 (4, [.n n, .i a, .i b, .i s, .i k, .n k, .i 0, .l h0, .l l, .l (convL l n s k)]) = some (4, [.l h0, .l l, .l (convL l n s k)]) := by
  refine loopL_run (m := 7) (f := f5_0) (fun i => (4, [.n n, .i a, .i b, .i s, .i k, .n k, .i i, .l h0, .l l, .l (convL l n s k)])) k (fun i hi => ⟨?_, by show 4 < 7; omega⟩) ?_ (by omega)
  · have hp := place_in hs (show i ≤ 2000 by omega)
    have w1 : IntKind.i64.wrap ((i : Int) * s) = i * s := wrap64 (by omega) (by omega)
    have w2 : IntKind.i64.wrap ((i : Int) + 1) = ((i + 1 : Nat) : Int) := wrap_nat (n := i + 1) (by omega)
    have ha := atL_ok l n hn h1 hm ((i : Int) * s) (by unfold In64; omega)
    have hx := convL_get l n s hi
    have hne : ∀ x : Int, (x ≠ x) = False := fun x => by simp
    have c1 : (i : Int) < k := by omega
    have c2 : (0 : Int) ≤ i ∧ (i : Int) < k := by omega
    simp -implicitDefEqProofs only [f5_0, f5_0_4, asN_n, asI_i, asL_l, asE_nil, Bool.cond_decide, if_pos c1, if_pos c2, Int.toNat_natCast, hx, optK_some, w1, ha, altK_0, hne, if_false]
    by_cases e : a = b
    · obtain ⟨rfl, rfl⟩ := he e
      have hy := get_some (l := l) (i := i) (by omega)
      rw [if_pos e, if_neg (by omega), if_pos (by omega), hy, optK_some, hold_ok, altK_0]
      simp -implicitDefEqProofs only [asI_i, asE_nil, rAt_same l k hn hl hi, hne, if_false, w2]
    · rw [if_neg e, w2]
  · simp -implicitDefEqProofs only [f5_0, f5_0_4, asN_n, asI_i, asL_l, asE_nil, Bool.cond_decide, if_neg (Int.lt_irrefl _)]
theorem convs_0 (l : List Int) (a b : Int) : g5 (0, [.n 0, .i a, .i b, .l l]) = some (0, [.b true, .l l]) := by
  obtain ⟨s, e1, e2, hs, _⟩ := step_facts a b
  obtain ⟨e3, e4⟩ := length_no 0 s (Or.inl (by omega))
  have hc : g14 (1, [.i a, .i b]) = some (1, [.i (if s = 0 then 14 else 0)]) := by
    simp -implicitDefEqProofs only [g14, g14_1, asI_i, asE_nil, e1, e3, altK_0, Bool.cond_decide]
    by_cases z : s = 0
    · rw [if_pos z, if_pos z]
    · rw [if_neg z, if_neg z, if_neg (by omega)]
      have hl : L14_0 (1, [.i s, .i 0, .i 0]) = some (1, []) := loopL_last (m := 5) (f := f14_0) (j := 1) (by
        simp -implicitDefEqProofs only [f14_0, f14_0_1, asI_i, asE_nil, Bool.cond_decide, if_neg (Int.lt_irrefl _)])
      simp -implicitDefEqProofs only [hl, altK_1, asE_nil]
  have hl : L5_0 (0, [.i a, .i b, .i s, .i 0, .i 0, .l l]) = some (0, [.l l]) := loopL_last (m := 7) (f := f5_0) (j := 0) (by
    simp -implicitDefEqProofs only [f5_0, f5_0_0, asI_i, asL_l, asE_nil, Bool.cond_decide, if_neg (Int.lt_irrefl _)])
  simp -implicitDefEqProofs only [g5, g5_0, asN_n, asI_i, asL_l, asB_b, asE_nil, Bool.cond_decide, few_0, altK_0, e2, e4, if_neg (show ¬ (2000 : Int) < 0 by omega), hc, altK_1]
  by_cases z : s = 0
  · simp -implicitDefEqProofs only [if_pos z, if_true, awakeL_ok, altK_0, asB_b, asE_nil]
  · have hne : ∀ x : Int, (x ≠ x) = False := fun x => by simp
    simp -implicitDefEqProofs only [if_neg z, if_neg (show ¬ (1048576 : Int) < 0 by omega), hne, if_false, hl, altK_0, asL_l, asE_nil, awakeL_ok, asB_b]
theorem convs_1 (l : List Int) (n : Nat) (hn : l.length = n) (h1 : 1 ≤ n) (hm : n < 9223372036854775808) (a b : Int) : g5 (0, [.n n, .i a, .i b, .l l]) = some (0, [.b true, .l l]) := by
  obtain ⟨s, e1, e2, hs, hab⟩ := step_facts a b
  have hlen : (fewV l).length = min 200 n := by rw [fewV_len, hn]
  have hfew := few_ok l n hn h1 hm
  have hin := fewV_in l
  have hN : 1 ≤ min 200 n ∧ min 200 n ≤ 1000000 := by omega
  generalize fewV l = F at *
  generalize min 200 n = N at *
  have hne : ∀ x : Int, (x ≠ x) = False := fun x => by simp
  by_cases z : s = 0
  · obtain ⟨e3, e4⟩ := length_no N s (Or.inr (by omega))
    have hc : g14 (0, [.n N, .i a, .i b, .l F]) = some (0, [.i 14, .l F]) := by
      simp -implicitDefEqProofs only [g14, g14_0, asN_n, asI_i, asL_l, asE_nil, e1, altK_0, Bool.cond_decide, if_pos z]
    simp -implicitDefEqProofs only [g5, g5_0, asN_n, asI_i, asL_l, asB_b, asE_nil, Bool.cond_decide, hfew, altK_1, e2, e4, altK_0, if_neg (show ¬ (2000 : Int) < 0 by omega), hc, if_pos z, if_true, awakeL_ok]
  · obtain ⟨k, e3, e4, hk, hkn⟩ := length_ok N s (by omega) (by omega)
    by_cases q1 : 2000 < k
    · by_cases q2 : k ≤ 1048576
      · simp -implicitDefEqProofs only [g5, g5_0, asN_n, asI_i, asL_l, asB_b, asE_nil, Bool.cond_decide, hfew, altK_1, e2, e4, altK_0, if_pos q1, if_pos q2, awakeL_ok]
      · have hc : g14 (0, [.n N, .i a, .i b, .l F]) = some (0, [.i 3, .l F]) := by
          simp -implicitDefEqProofs only [g14, g14_0, asN_n, asI_i, asL_l, asE_nil, e1, e3, altK_0, Bool.cond_decide, if_neg z, if_neg (show ¬ (1048576 : Int) < N by omega), if_pos (show 1048576 < k by omega)]
        simp -implicitDefEqProofs only [g5, g5_0, asN_n, asI_i, asL_l, asB_b, asE_nil, Bool.cond_decide, hfew, altK_1, e2, e4, altK_0, if_pos q1, if_neg q2, hc, if_neg z, if_pos (show 1048576 < k by omega), if_true, awakeL_ok]
    · obtain ⟨K, rfl⟩ : ∃ K : Nat, k = K := ⟨k.toNat, by omega⟩
      have hcl := conv_loop F N hlen hN.1 hN.2 s (by omega) K (by omega)
      have hc : g14 (0, [.n N, .i a, .i b, .l F]) = some (2, [.n K, .i 0, .l F, .l (convL F N s K)]) := by
        simp -implicitDefEqProofs only [g14, g14_0, asN_n, asI_i, asL_l, asE_nil, e1, e3, altK_0, Bool.cond_decide, if_neg z, if_neg (show ¬ (1048576 : Int) < N by omega), if_neg (show ¬ (1048576 : Int) < K by omega), hcl, altK_2]
      have hll := law_loop l F N hlen hN.1 hN.2 hin a b s (by omega) K (by omega) (fun e => by
        have h4 : s = 4294967296 := by
          rcases hab e with h | h
          · exact absurd h z
          · exact h
        have := hkn h4
        exact ⟨h4, by omega⟩)
      simp -implicitDefEqProofs only [g5, g5_0, asN_n, asI_i, asL_l, asB_b, asE_nil, Bool.cond_decide, hfew, altK_1, e2, e4, altK_0, if_neg q1, hc, altK_2, if_neg z, if_neg (show ¬ (1048576 : Int) < K by omega), hne, if_false, hll, altK_4, awakeL_ok]
theorem convs_l (l : List Int) (n : Nat) (hl : l.length = n * 1) (hm : n ≤ maxLen) (a b : Int) : ∃ d, evF tab d 5 [.slice 0 0 n 1, .int .i64 a, .int .i64 b] [⟨false, .ints .i64 l⟩] = some (.bool true, [⟨false, .ints .i64 l⟩], []) :=
  ⟨_, (ok5 0).ret (i := 0) (ls := [.n n, .i a, .i b, .l l]) (j := 0) (r := [.b true, .l l]) (by
    by_cases h : n = 0
    · subst h; exact convs_0 l a b
    · exact convs_1 l n (by omega) (by omega) (by have : maxLen = 9223372036854775807 := rfl; omega) a b) rfl rfl rfl rfl⟩
end Go.Proofs.Ytkbjemencmaloaa
