/-
  What the functions of a frame tell, as far as the law of veils needs it. Conditions: none.
-/
import Derived.Test.YthofmhnbncopjaaDecV
import Derived.Test.YthofmhnbncopjaaSpecB
import Derived.Test.YthofmhnbncopjaaPath
namespace Go.Proofs.Ythofmhnbncopjaa
open Go Go.Sx V
set_option maxRecDepth 100000
set_option linter.unusedVariables false
attribute [local simp] asI_i asB_b asL_l asN_n asS_s asE_nil altK_none altK_0 altK_1 altK_2 altK_3 optK_some optK_none Bool.cond_decide Bool.cond_not Int.toNat_natCast
set_option linter.unusedSimpArgs false
theorem fits_v (v k : Int) : ∃ b, g21 (0, [.i v, .i k]) = some (0, [.b b]) := by
  by_cases c0 : k ≤ 0
  · exact ⟨_, by simp -implicitDefEqProofs only [g21, g21_0, asI_i, asN_n, asL_l, asB_b, asE_nil, Bool.cond_decide, Bool.cond_not, if_pos c0]; rfl⟩
  · by_cases c1 : 63 < k
    · exact ⟨true, by simp -implicitDefEqProofs only [g21, g21_0, asI_i, asN_n, asL_l, asB_b, asE_nil, Bool.cond_decide, Bool.cond_not, if_neg c0, if_pos c1]⟩
    · have w : IntKind.i64.wrap (k - 1) = k - 1 := wrap64 (by omega) (by omega)
      by_cases c2 : shlI .i64 (-1) (k - 1) ≤ v
      · exact ⟨_, by simp -implicitDefEqProofs only [g21, g21_0, asI_i, asN_n, asL_l, asB_b, asE_nil, Bool.cond_decide, Bool.cond_not, if_neg c0, if_neg c1, w, if_neg (show ¬ k - 1 < 0 by omega), if_pos c2]; rfl⟩
      · exact ⟨false, by simp -implicitDefEqProofs only [g21, g21_0, asI_i, asN_n, asL_l, asB_b, asE_nil, Bool.cond_decide, Bool.cond_not, if_neg c0, if_neg c1, w, if_neg (show ¬ k - 1 < 0 by omega), if_neg c2]⟩
theorem clamp_v (x : Int) : g23 (0, [.i x, .i (-2147483648), .i 2147483648]) = some (0, [.i (clamp31 x)]) := by
  unfold clamp31
  simp -implicitDefEqProofs only [g23, g23_0, asI_i, asN_n, asL_l, asB_b, asE_nil, Bool.cond_decide, Bool.cond_not]
  repeat' split
  all_goals first | rfl | omega | (simp only [Option.some.injEq, Prod.mk.injEq, List.cons.injEq, Leaf.i.injEq, true_and, and_true]; omega)
theorem step_v (s : Int) : ∃ v, g24 (0, [.i s]) = some (0, [.i v]) := by
  by_cases c0 : s < 0
  · exact ⟨_, by simp -implicitDefEqProofs only [g24, g24_0, asI_i, asN_n, asL_l, asB_b, asE_nil, Bool.cond_decide, Bool.cond_not, if_pos c0]; rfl⟩
  · by_cases c1 : 23 < s
    · exact ⟨_, by simp -implicitDefEqProofs only [g24, g24_0, asI_i, asN_n, asL_l, asB_b, asE_nil, Bool.cond_decide, Bool.cond_not, if_neg c0, if_pos c1]; rfl⟩
    · exact ⟨_, by simp -implicitDefEqProofs only [g24, g24_0, asI_i, asN_n, asL_l, asB_b, asE_nil, Bool.cond_decide, Bool.cond_not, if_neg c0, if_neg c1]; rfl⟩
theorem band_v (k : Nat) (hk : k < 16) : g25 (0, [.i k]) = some (0, [.i (k / 4 : Nat)]) := by
  have w : IntKind.i64.wrap (Int.tdiv (k : Int) 4) = ((k / 4 : Nat) : Int) := by rw [Int.tdiv_eq_ediv_of_nonneg (by omega), wrap64 (by omega) (by omega)]; omega
  simp -implicitDefEqProofs only [g25, g25_0, asI_i, asN_n, asL_l, asB_b, asE_nil, Bool.cond_decide, Bool.cond_not, if_neg (show ¬ (k : Int) < 0 by omega), if_neg (show ¬ (16 : Int) ≤ k by omega), w]
theorem scales_v (s : List Int) (hs : s.length = 4) : ∃ b, g20 (0, [.l s]) = some (0, [.b b]) := by
  have hl : L20_0 (0, [.l s, .i 0, .l s]) = some (0, [.l s]) ∨ L20_0 (0, [.l s, .i 0, .l s]) = some (1, [.l s]) := by
    have := loop_chain (m := 1) (f := f20_0) (fun k => (0, [.l s, .i k, .l s])) 4 (ja := 1) (jb := 0) (ra := [.l s]) (rb := [.l s]) (fun k _ => by show 0 < 1; omega) (fun k hk => ?_) ?_ (by omega)
    · rcases this with h | h
      · exact Or.inr (by unfold L20_0; exact h)
      · exact Or.inl (by unfold L20_0; exact h)
    · have hx : s[k]? = some (s.getD k 0) := get_some (by omega)
      have w2 : IntKind.i64.wrap ((k : Int) + 1) = ((k + 1 : Nat) : Int) := wrap_nat (n := k + 1) (by omega)
      generalize s.getD k 0 = v at *
      simp -implicitDefEqProofs only [f20_0, f20_0_0, asI_i, asN_n, asL_l, asB_b, asE_nil, Bool.cond_decide, Bool.cond_not, if_pos (show (k : Int) < 4 by omega), if_pos (show (0 : Int) ≤ k ∧ (k : Int) < 4 by omega), Int.toNat_natCast, hx, optK_some, w2]
      (repeat' split) <;> first | exact Or.inl rfl | exact Or.inr rfl
    · simp -implicitDefEqProofs only [f20_0, f20_0_0, asI_i, asN_n, asL_l, asB_b, asE_nil, Bool.cond_decide, Bool.cond_not, if_neg (show ¬ ((4 : Nat) : Int) < 4 by omega)]
  have ht : List.take 4 s = s := List.take_of_length_le (by omega)
  rcases hl with hl | hl
  · exact ⟨true, by simp -implicitDefEqProofs only [g20, g20_0, asI_i, asN_n, asL_l, asB_b, asE_nil, Bool.cond_decide, Bool.cond_not, if_pos (show 4 ≤ s.length by omega), ht, hl, altK_0]⟩
  · exact ⟨false, by simp -implicitDefEqProofs only [g20, g20_0, asI_i, asN_n, asL_l, asB_b, asE_nil, Bool.cond_decide, Bool.cond_not, if_pos (show 4 ≤ s.length by omega), ht, hl, altK_1]⟩
theorem values_step_v (s : List Int) (hs : s.length = 4) (Z q : List Int) (hq : q.length = 16) (k : Nat) (hk : k < 16) : ∃ q' : List Int, q'.length = 16 ∧ f22_0 (0, [.i k, .l q, .l s, .l Z]) = some (0, [.i (k + 1 : Nat), .l q', .l s, .l Z]) := by
  have hx : q[k]? = some (q.getD k 0) := get_some (by omega)
  have hy : s[k / 4]? = some (s.getD (k / 4) 0) := get_some (by omega)
  obtain ⟨v, hv⟩ := step_v (s.getD (k / 4) 0)
  have hb := band_v k hk
  have w2 : IntKind.i64.wrap ((k : Int) + 1) = ((k + 1 : Nat) : Int) := wrap_nat (n := k + 1) (by omega)
  refine ⟨q.set k (IntKind.i64.wrap (q.getD k 0 * v)), by rw [List.length_set]; exact hq, ?_⟩
  generalize q.getD k 0 = u at *
  generalize s.getD (k / 4) 0 = t at *
  simp -implicitDefEqProofs only [f22_0, f22_0_0, asI_i, asN_n, asL_l, asB_b, asE_nil, Bool.cond_decide, Bool.cond_not, if_pos (show (k : Int) < 16 by omega), if_pos (show (0 : Int) ≤ k ∧ (k : Int) < 16 by omega), Int.toNat_natCast, hx, optK_some, hb, altK_0, if_pos (show (0 : Int) ≤ ((k / 4 : Nat) : Int) ∧ ((k / 4 : Nat) : Int) < 4 by omega), hy, hv, if_pos (show k < q.length by omega), w2]
theorem values_v (q s : List Int) (hq : q.length = 16) (hs : s.length = 4) : ∃ x : List Int, g22 (0, [.l q, .l s]) = some (0, [.l x]) ∧ x.length = 16 := by
  obtain ⟨b, hb⟩ := scales_v s hs
  have ht : List.take 4 s = s := List.take_of_length_le (by omega)
  cases b with
  | false => exact ⟨[0, 0, 0, 0, 0, 0, 0, 0, 0, 0, 0, 0, 0, 0, 0, 0], by simp -implicitDefEqProofs only [g22, g22_0, asI_i, asN_n, asL_l, asB_b, asE_nil, Bool.cond_decide, Bool.cond_not, if_pos (show 4 ≤ s.length by omega), ht, hb, altK_0, if_false, cond_false, Bool.not_false, cond_true], rfl⟩
  | true =>
    obtain ⟨Q, hQ0, hQ⟩ : ∃ Q : Nat → List Int, Q 0 = q ∧ ∀ k, (Q k).length = 16 ∧ (k < 16 → f22_0 (0, [.i k, .l (Q k), .l s, .l [0, 0, 0, 0, 0, 0, 0, 0, 0, 0, 0, 0, 0, 0, 0, 0]]) = some (0, [.i (k + 1 : Nat), .l (Q (k + 1)), .l s, .l [0, 0, 0, 0, 0, 0, 0, 0, 0, 0, 0, 0, 0, 0, 0, 0]])) := by
      let Q : (k : Nat) → {l : List Int // l.length = 16} := fun k => Nat.rec ⟨q, hq⟩ (fun k l => if hk : k < 16 then ⟨(values_step_v s hs [0, 0, 0, 0, 0, 0, 0, 0, 0, 0, 0, 0, 0, 0, 0, 0] l.1 l.2 k hk).choose, (values_step_v s hs [0, 0, 0, 0, 0, 0, 0, 0, 0, 0, 0, 0, 0, 0, 0, 0] l.1 l.2 k hk).choose_spec.1⟩ else l) k
      refine ⟨fun k => (Q k).1, rfl, fun k => ⟨(Q k).2, fun hk => ?_⟩⟩
      have e : Q (k + 1) = ⟨(values_step_v s hs [0, 0, 0, 0, 0, 0, 0, 0, 0, 0, 0, 0, 0, 0, 0, 0] (Q k).1 (Q k).2 k hk).choose, (values_step_v s hs [0, 0, 0, 0, 0, 0, 0, 0, 0, 0, 0, 0, 0, 0, 0, 0] (Q k).1 (Q k).2 k hk).choose_spec.1⟩ := by
        show (if hk : k < 16 then _ else _) = _
        rw [dif_pos hk]
      show f22_0 (0, [.i k, .l (Q k).1, .l s, .l [0, 0, 0, 0, 0, 0, 0, 0, 0, 0, 0, 0, 0, 0, 0, 0]]) = some (0, [.i (k + 1 : Nat), .l (Q (k + 1)).1, .l s, .l [0, 0, 0, 0, 0, 0, 0, 0, 0, 0, 0, 0, 0, 0, 0, 0]])
      rw [show (Q (k + 1)).1 = (values_step_v s hs [0, 0, 0, 0, 0, 0, 0, 0, 0, 0, 0, 0, 0, 0, 0, 0] (Q k).1 (Q k).2 k hk).choose by rw [e]]
      exact (values_step_v s hs [0, 0, 0, 0, 0, 0, 0, 0, 0, 0, 0, 0, 0, 0, 0, 0] (Q k).1 (Q k).2 k hk).choose_spec.2
    have hl : L22_0 (0, [.i 0, .l q, .l s, .l [0, 0, 0, 0, 0, 0, 0, 0, 0, 0, 0, 0, 0, 0, 0, 0]]) = some (0, [.l (Q 16), .l s, .l [0, 0, 0, 0, 0, 0, 0, 0, 0, 0, 0, 0, 0, 0, 0, 0]]) := by
      have main := loopL_run (m := 1) (f := f22_0) (fun k => (0, [.i k, .l (Q k), .l s, .l [0, 0, 0, 0, 0, 0, 0, 0, 0, 0, 0, 0, 0, 0, 0, 0]])) 16 (j := 0) (r := [.l (Q 16), .l s, .l [0, 0, 0, 0, 0, 0, 0, 0, 0, 0, 0, 0, 0, 0, 0, 0]]) (fun k hk => ⟨(hQ k).2 hk, by show 0 < 1; omega⟩) ?_ (by omega)
      · simp only [hQ0] at main
        unfold L22_0; exact main
      · simp -implicitDefEqProofs only [f22_0, f22_0_0, asI_i, asN_n, asL_l, asB_b, asE_nil, Bool.cond_decide, Bool.cond_not, if_neg (show ¬ ((16 : Nat) : Int) < 16 by omega)]
    have h16 := (hQ 16).1
    have t16 : List.take 16 (Q 16) = Q 16 := List.take_of_length_le (by omega)
    exact ⟨Q 16, by simp -implicitDefEqProofs only [g22, g22_0, asI_i, asN_n, asL_l, asB_b, asE_nil, Bool.cond_decide, Bool.cond_not, if_pos (show 4 ≤ s.length by omega), ht, hb, altK_0, Bool.not_true, cond_false, hl, t16, h16, if_true, if_pos (show 16 ≤ 16 by omega), if_pos (show 0 + 16 ≤ List.length ([0, 0, 0, 0, 0, 0, 0, 0, 0, 0, 0, 0, 0, 0, 0, 0] : List Int) by decide), drop16, List.append_nil, cond_true], h16⟩
theorem gains_v (s : List Int) (hs : s.length = 4) : ∃ b, g18 (0, [.l s]) = some (0, [.b b]) := by
  have hl : L18_0 (0, [.l s, .i 0, .l s]) = some (0, [.l s]) ∨ L18_0 (0, [.l s, .i 0, .l s]) = some (1, [.l s]) := by
    have := loop_chain (m := 1) (f := f18_0) (fun k => (0, [.l s, .i k, .l s])) 4 (ja := 1) (jb := 0) (ra := [.l s]) (rb := [.l s]) (fun k _ => by show 0 < 1; omega) (fun k hk => ?_) ?_ (by omega)
    · rcases this with h | h
      · exact Or.inr (by unfold L18_0; exact h)
      · exact Or.inl (by unfold L18_0; exact h)
    · have hx : s[k]? = some (s.getD k 0) := get_some (by omega)
      have w2 : IntKind.i64.wrap ((k : Int) + 1) = ((k + 1 : Nat) : Int) := wrap_nat (n := k + 1) (by omega)
      generalize s.getD k 0 = v at *
      simp -implicitDefEqProofs only [f18_0, f18_0_0, asI_i, asN_n, asL_l, asB_b, asE_nil, Bool.cond_decide, Bool.cond_not, if_pos (show (k : Int) < 4 by omega), if_pos (show (0 : Int) ≤ k ∧ (k : Int) < 4 by omega), Int.toNat_natCast, hx, optK_some, w2]
      (repeat' split) <;> first | exact Or.inl rfl | exact Or.inr rfl
    · simp -implicitDefEqProofs only [f18_0, f18_0_0, asI_i, asN_n, asL_l, asB_b, asE_nil, Bool.cond_decide, Bool.cond_not, if_neg (show ¬ ((4 : Nat) : Int) < 4 by omega)]
  have ht : List.take 4 s = s := List.take_of_length_le (by omega)
  rcases hl with hl | hl
  · exact ⟨true, by simp -implicitDefEqProofs only [g18, g18_0, asI_i, asN_n, asL_l, asB_b, asE_nil, Bool.cond_decide, Bool.cond_not, if_pos (show 4 ≤ s.length by omega), ht, hl, altK_0]⟩
  · exact ⟨false, by simp -implicitDefEqProofs only [g18, g18_0, asI_i, asN_n, asL_l, asB_b, asE_nil, Bool.cond_decide, Bool.cond_not, if_pos (show 4 ≤ s.length by omega), ht, hl, altK_1]⟩
theorem tones_v (n : Nat) (h : List Int) (hl : n * 2 ≤ h.length) (hn : n ≤ 5) : ∃ b, g19 (0, [.n n, .l h]) = some (0, [.b b]) := by
  have ind := loopL_ind (m := 1) (f := f19_0) (fun s => ∃ k : Nat, k ≤ n ∧ s = (0, [.n n, .l h, .n n, .l h, .i (n : Int), .i (k : Int)])) (fun s => match s.2 with
    | [_, _, _, _, _, .i k] => n - k.toNat
    | _ => 0) (fun j r => (j = 0 ∧ r = [.n n, .l h]) ∨ (j = 1 ∧ ∃ q, r = [.b false, .l q])) (fun s hs => ?_) (0, [.n n, .l h, .n n, .l h, .i (n : Int), .i ((0 : Nat) : Int)]) ⟨0, Nat.zero_le _, rfl⟩ (by show n - _ < _; omega)
  · obtain ⟨j, r, hL, hP⟩ := ind
    have hL' : L19_0 (0, [.n n, .l h, .n n, .l h, .i (n : Int), .i 0]) = some (j, r) := hL
    rcases hP with ⟨rfl, rfl⟩ | ⟨rfl, q, rfl⟩
    · exact ⟨_, by simp -implicitDefEqProofs only [g19, g19_0, asI_i, asN_n, asL_l, asB_b, asX_x, asE_nil, ↓Bool.cond_decide, Bool.cond_not, cond_true, cond_false, Bool.not_true, Bool.not_false, hL', altK_0]; rfl⟩
    · exact ⟨false, by simp -implicitDefEqProofs only [g19, g19_0, asI_i, asN_n, asL_l, asB_b, asX_x, asE_nil, ↓Bool.cond_decide, Bool.cond_not, cond_true, cond_false, Bool.not_true, Bool.not_false, hL', altK_1]⟩
  · obtain ⟨k, hk, rfl⟩ := hs
    by_cases c : k < n
    · have c0 := cT_0 (h := h) (k := k) (by omega)
      have c1 := cT_1 (h := h) (k := k) (by omega)
      have cl := cT_len (h := h) (k := k) (by omega)
      have w2 : IntKind.i64.wrap ((k : Int) + 1) = ((k + 1 : Nat) : Int) := wrap_nat (n := k + 1) (by omega)
      obtain ⟨b, hb⟩ := fits_v (h.getD (k * 2 + 1) 0) 24
      have hx : 0 < k → h[(k - 1) * 2]? = some (h.getD ((k - 1) * 2) 0) := fun _ => get_some (by omega)
      have w1 : 0 < k → IntKind.i64.wrap ((k : Int) - 1) = ((k - 1 : Nat) : Int) := fun hk => by rw [wrap64 (by omega) (by omega)]; omega
      generalize h.getD (k * 2) 0 = v at *
      generalize h.getD (k * 2 + 1) 0 = u at *
      have key : f19_0 (0, [.n n, .l h, .n n, .l h, .i (n : Int), .i (k : Int)]) = some (0, [.n n, .l h, .n n, .l h, .i (n : Int), .i ((k + 1 : Nat) : Int)]) ∨ ∃ q, f19_0 (0, [.n n, .l h, .n n, .l h, .i (n : Int), .i (k : Int)]) = some (1 + 1, [.b false, .l q]) := by
        by_cases z : 0 < k
        · have hx := hx z
          have w1 := w1 z
          simp -implicitDefEqProofs only [f19_0, f19_0_0, asI_i, asN_n, asL_l, asB_b, asX_x, asE_nil, ↓Bool.cond_decide, Bool.cond_not, cond_true, cond_false, Bool.not_true, Bool.not_false, if_pos (show (k : Int) < (n : Int) by omega), if_pos (show (0 : Int) ≤ (k : Int) ∧ (k : Int) < (n : Int) by omega), Int.toNat_natCast, if_pos (show k * 2 + 2 ≤ h.length by omega), cl, if_true, Nat.zero_add, Nat.le_refl, show List.drop 2 ([0, 0] : List Int) = [] from rfl, List.append_nil, c0, c1, optK_some, if_pos (show (0 : Int) < (k : Int) by omega), w1, if_pos (show (0 : Int) ≤ ((k - 1 : Nat) : Int) ∧ ((k - 1 : Nat) : Int) < (n : Int) by omega), hx, hb, altK_0, w2]
          cases b <;> (simp only [cond_true, cond_false, Bool.not_true, Bool.not_false]; (repeat' split) <;> first | exact .inl rfl | exact .inr ⟨_, rfl⟩)
        · simp -implicitDefEqProofs only [f19_0, f19_0_0, asI_i, asN_n, asL_l, asB_b, asX_x, asE_nil, ↓Bool.cond_decide, Bool.cond_not, cond_true, cond_false, Bool.not_true, Bool.not_false, if_pos (show (k : Int) < (n : Int) by omega), if_pos (show (0 : Int) ≤ (k : Int) ∧ (k : Int) < (n : Int) by omega), Int.toNat_natCast, if_pos (show k * 2 + 2 ≤ h.length by omega), cl, if_true, Nat.zero_add, Nat.le_refl, show List.drop 2 ([0, 0] : List Int) = [] from rfl, List.append_nil, c0, c1, optK_some, if_neg (show ¬ (0 : Int) < (k : Int) by omega), hb, altK_0, w2]
          cases b <;> (simp only [cond_true, cond_false, Bool.not_true, Bool.not_false]; (repeat' split) <;> first | exact .inl rfl | exact .inr ⟨_, rfl⟩)
      rcases key with e | ⟨q, e⟩
      · refine .inl ⟨_, e, by show 0 < 1; omega, ⟨k + 1, by omega, rfl⟩, ?_⟩
        show n - ((k + 1 : Nat) : Int).toNat < n - (k : Int).toNat
        omega
      · exact .inr ⟨1, _, e, .inr ⟨rfl, q, rfl⟩⟩
    · refine .inr ⟨0, _, ?_, .inl ⟨rfl, rfl⟩⟩
      obtain rfl : k = n := by omega
      simp -implicitDefEqProofs only [f19_0, f19_0_0, asI_i, asN_n, asL_l, asB_b, asX_x, asE_nil, ↓Bool.cond_decide, Bool.cond_not, cond_true, cond_false, Bool.not_true, Bool.not_false, if_neg (Int.lt_irrefl _)]
theorem rq_0 (a : Nat → Int) (n : Nat) (h : List Int) (w : Int) : f13_0 (0, [.i w, .i (a 9), .i (a 10), .i (a 11), .i (a 12), .i (a 0), .i (a 1), .i (a 2), .i (a 3), .n n, .l h, .i (a 5), .i (a 6), .i (a 7), .i (a 8), .i (a 9), .i (a 10), .i (a 11), .i (a 12), .i (a 13), .i (a 14), .i (a 15), .i (a 16), .i (a 17), .i (a 18), .i (a 19), .i (a 20), .i (a 21), .i (a 22), .i (a 23), .i (a 24), .i (a 25), .i (a 26), .i (a 27), .i (a 28)]) = some (1, [.i w, .i (a 9), .i (a 10), .i (a 11), .i (a 12), .i (a 0), .i (a 1), .i (a 2), .i (a 3), .n n, .l h, .i (a 5), .i (a 6), .i (a 7), .i (a 8), .i (a 9), .i (a 10), .i (a 11), .i (a 12), .i (a 13), .i (a 14), .i (a 15), .i (a 16), .i (a 17), .i (a 18), .i (a 19), .i (a 20), .i (a 21), .i (a 22), .i (a 23), .i (a 24), .i (a 25), .i (a 26), .i (a 27), .i (a 28)]) ∨ f13_0 (0, [.i w, .i (a 9), .i (a 10), .i (a 11), .i (a 12), .i (a 0), .i (a 1), .i (a 2), .i (a 3), .n n, .l h, .i (a 5), .i (a 6), .i (a 7), .i (a 8), .i (a 9), .i (a 10), .i (a 11), .i (a 12), .i (a 13), .i (a 14), .i (a 15), .i (a 16), .i (a 17), .i (a 18), .i (a 19), .i (a 20), .i (a 21), .i (a 22), .i (a 23), .i (a 24), .i (a 25), .i (a 26), .i (a 27), .i (a 28)]) = some (20 + 0, [.i (a 0), .i (a 1), .i (a 2), .i (a 3), .n n, .l h, .i (a 5), .i (a 6), .i (a 7), .i (a 8), .i (a 9), .i (a 10), .i (a 11), .i (a 12), .i (a 13), .i (a 14), .i (a 15), .i (a 16), .i (a 17), .i (a 18), .i (a 19), .i (a 20), .i (a 21), .i (a 22), .i (a 23), .i (a 24), .i (a 25), .i (a 26), .i (a 27), .i (a 28)]) := by
  obtain ⟨b, hb⟩ := fits_v (a 13) w
  cases b
  · right
    simp -implicitDefEqProofs only [f13_0, f13_0_0, asI_i, asN_n, asL_l, asB_b, asX_x, asE_nil, ↓Bool.cond_decide, Bool.cond_not, cond_true, cond_false, Bool.not_true, Bool.not_false, hb, altK_0, Bool.not_false, cond_true]
  · left
    simp -implicitDefEqProofs only [f13_0, f13_0_0, asI_i, asN_n, asL_l, asB_b, asX_x, asE_nil, ↓Bool.cond_decide, Bool.cond_not, cond_true, cond_false, Bool.not_true, Bool.not_false, hb, altK_0, Bool.not_true, cond_false]
theorem rq_1 (a : Nat → Int) (n : Nat) (h : List Int) (w : Int) : f13_0 (1, [.i w, .i (a 9), .i (a 10), .i (a 11), .i (a 12), .i (a 0), .i (a 1), .i (a 2), .i (a 3), .n n, .l h, .i (a 5), .i (a 6), .i (a 7), .i (a 8), .i (a 9), .i (a 10), .i (a 11), .i (a 12), .i (a 13), .i (a 14), .i (a 15), .i (a 16), .i (a 17), .i (a 18), .i (a 19), .i (a 20), .i (a 21), .i (a 22), .i (a 23), .i (a 24), .i (a 25), .i (a 26), .i (a 27), .i (a 28)]) = some (2, [.i w, .i (a 9), .i (a 10), .i (a 11), .i (a 12), .i (a 0), .i (a 1), .i (a 2), .i (a 3), .n n, .l h, .i (a 5), .i (a 6), .i (a 7), .i (a 8), .i (a 9), .i (a 10), .i (a 11), .i (a 12), .i (a 13), .i (a 14), .i (a 15), .i (a 16), .i (a 17), .i (a 18), .i (a 19), .i (a 20), .i (a 21), .i (a 22), .i (a 23), .i (a 24), .i (a 25), .i (a 26), .i (a 27), .i (a 28)]) ∨ f13_0 (1, [.i w, .i (a 9), .i (a 10), .i (a 11), .i (a 12), .i (a 0), .i (a 1), .i (a 2), .i (a 3), .n n, .l h, .i (a 5), .i (a 6), .i (a 7), .i (a 8), .i (a 9), .i (a 10), .i (a 11), .i (a 12), .i (a 13), .i (a 14), .i (a 15), .i (a 16), .i (a 17), .i (a 18), .i (a 19), .i (a 20), .i (a 21), .i (a 22), .i (a 23), .i (a 24), .i (a 25), .i (a 26), .i (a 27), .i (a 28)]) = some (20 + 0, [.i (a 0), .i (a 1), .i (a 2), .i (a 3), .n n, .l h, .i (a 5), .i (a 6), .i (a 7), .i (a 8), .i (a 9), .i (a 10), .i (a 11), .i (a 12), .i (a 13), .i (a 14), .i (a 15), .i (a 16), .i (a 17), .i (a 18), .i (a 19), .i (a 20), .i (a 21), .i (a 22), .i (a 23), .i (a 24), .i (a 25), .i (a 26), .i (a 27), .i (a 28)]) := by
  obtain ⟨b, hb⟩ := fits_v (a 14) w
  cases b
  · right
    simp -implicitDefEqProofs only [f13_0, f13_0_1, asI_i, asN_n, asL_l, asB_b, asX_x, asE_nil, ↓Bool.cond_decide, Bool.cond_not, cond_true, cond_false, Bool.not_true, Bool.not_false, hb, altK_0, Bool.not_false, cond_true]
  · left
    simp -implicitDefEqProofs only [f13_0, f13_0_1, asI_i, asN_n, asL_l, asB_b, asX_x, asE_nil, ↓Bool.cond_decide, Bool.cond_not, cond_true, cond_false, Bool.not_true, Bool.not_false, hb, altK_0, Bool.not_true, cond_false]
theorem rq_2 (a : Nat → Int) (n : Nat) (h : List Int) (w : Int) : f13_0 (2, [.i w, .i (a 9), .i (a 10), .i (a 11), .i (a 12), .i (a 0), .i (a 1), .i (a 2), .i (a 3), .n n, .l h, .i (a 5), .i (a 6), .i (a 7), .i (a 8), .i (a 9), .i (a 10), .i (a 11), .i (a 12), .i (a 13), .i (a 14), .i (a 15), .i (a 16), .i (a 17), .i (a 18), .i (a 19), .i (a 20), .i (a 21), .i (a 22), .i (a 23), .i (a 24), .i (a 25), .i (a 26), .i (a 27), .i (a 28)]) = some (3, [.i w, .i (a 9), .i (a 10), .i (a 11), .i (a 12), .i (a 0), .i (a 1), .i (a 2), .i (a 3), .n n, .l h, .i (a 5), .i (a 6), .i (a 7), .i (a 8), .i (a 9), .i (a 10), .i (a 11), .i (a 12), .i (a 13), .i (a 14), .i (a 15), .i (a 16), .i (a 17), .i (a 18), .i (a 19), .i (a 20), .i (a 21), .i (a 22), .i (a 23), .i (a 24), .i (a 25), .i (a 26), .i (a 27), .i (a 28)]) ∨ f13_0 (2, [.i w, .i (a 9), .i (a 10), .i (a 11), .i (a 12), .i (a 0), .i (a 1), .i (a 2), .i (a 3), .n n, .l h, .i (a 5), .i (a 6), .i (a 7), .i (a 8), .i (a 9), .i (a 10), .i (a 11), .i (a 12), .i (a 13), .i (a 14), .i (a 15), .i (a 16), .i (a 17), .i (a 18), .i (a 19), .i (a 20), .i (a 21), .i (a 22), .i (a 23), .i (a 24), .i (a 25), .i (a 26), .i (a 27), .i (a 28)]) = some (20 + 0, [.i (a 0), .i (a 1), .i (a 2), .i (a 3), .n n, .l h, .i (a 5), .i (a 6), .i (a 7), .i (a 8), .i (a 9), .i (a 10), .i (a 11), .i (a 12), .i (a 13), .i (a 14), .i (a 15), .i (a 16), .i (a 17), .i (a 18), .i (a 19), .i (a 20), .i (a 21), .i (a 22), .i (a 23), .i (a 24), .i (a 25), .i (a 26), .i (a 27), .i (a 28)]) := by
  obtain ⟨b, hb⟩ := fits_v (a 15) w
  cases b
  · right
    simp -implicitDefEqProofs only [f13_0, f13_0_2, asI_i, asN_n, asL_l, asB_b, asX_x, asE_nil, ↓Bool.cond_decide, Bool.cond_not, cond_true, cond_false, Bool.not_true, Bool.not_false, hb, altK_0, Bool.not_false, cond_true]
  · left
    simp -implicitDefEqProofs only [f13_0, f13_0_2, asI_i, asN_n, asL_l, asB_b, asX_x, asE_nil, ↓Bool.cond_decide, Bool.cond_not, cond_true, cond_false, Bool.not_true, Bool.not_false, hb, altK_0, Bool.not_true, cond_false]
theorem rq_3 (a : Nat → Int) (n : Nat) (h : List Int) (w : Int) : f13_0 (3, [.i w, .i (a 9), .i (a 10), .i (a 11), .i (a 12), .i (a 0), .i (a 1), .i (a 2), .i (a 3), .n n, .l h, .i (a 5), .i (a 6), .i (a 7), .i (a 8), .i (a 9), .i (a 10), .i (a 11), .i (a 12), .i (a 13), .i (a 14), .i (a 15), .i (a 16), .i (a 17), .i (a 18), .i (a 19), .i (a 20), .i (a 21), .i (a 22), .i (a 23), .i (a 24), .i (a 25), .i (a 26), .i (a 27), .i (a 28)]) = some (4, [.i w, .i (a 9), .i (a 10), .i (a 11), .i (a 12), .i (a 0), .i (a 1), .i (a 2), .i (a 3), .n n, .l h, .i (a 5), .i (a 6), .i (a 7), .i (a 8), .i (a 9), .i (a 10), .i (a 11), .i (a 12), .i (a 13), .i (a 14), .i (a 15), .i (a 16), .i (a 17), .i (a 18), .i (a 19), .i (a 20), .i (a 21), .i (a 22), .i (a 23), .i (a 24), .i (a 25), .i (a 26), .i (a 27), .i (a 28)]) ∨ f13_0 (3, [.i w, .i (a 9), .i (a 10), .i (a 11), .i (a 12), .i (a 0), .i (a 1), .i (a 2), .i (a 3), .n n, .l h, .i (a 5), .i (a 6), .i (a 7), .i (a 8), .i (a 9), .i (a 10), .i (a 11), .i (a 12), .i (a 13), .i (a 14), .i (a 15), .i (a 16), .i (a 17), .i (a 18), .i (a 19), .i (a 20), .i (a 21), .i (a 22), .i (a 23), .i (a 24), .i (a 25), .i (a 26), .i (a 27), .i (a 28)]) = some (20 + 0, [.i (a 0), .i (a 1), .i (a 2), .i (a 3), .n n, .l h, .i (a 5), .i (a 6), .i (a 7), .i (a 8), .i (a 9), .i (a 10), .i (a 11), .i (a 12), .i (a 13), .i (a 14), .i (a 15), .i (a 16), .i (a 17), .i (a 18), .i (a 19), .i (a 20), .i (a 21), .i (a 22), .i (a 23), .i (a 24), .i (a 25), .i (a 26), .i (a 27), .i (a 28)]) := by
  obtain ⟨b, hb⟩ := fits_v (a 16) w
  cases b
  · right
    simp -implicitDefEqProofs only [f13_0, f13_0_3, asI_i, asN_n, asL_l, asB_b, asX_x, asE_nil, ↓Bool.cond_decide, Bool.cond_not, cond_true, cond_false, Bool.not_true, Bool.not_false, hb, altK_0, Bool.not_false, cond_true]
  · left
    simp -implicitDefEqProofs only [f13_0, f13_0_3, asI_i, asN_n, asL_l, asB_b, asX_x, asE_nil, ↓Bool.cond_decide, Bool.cond_not, cond_true, cond_false, Bool.not_true, Bool.not_false, hb, altK_0, Bool.not_true, cond_false]
theorem rg_0 (a : Nat → Int) (n : Nat) (h : List Int) (w : Int) : L13_0 (0, [.i w, .i (a 9), .i (a 10), .i (a 11), .i (a 12), .i (a 0), .i (a 1), .i (a 2), .i (a 3), .n n, .l h, .i (a 5), .i (a 6), .i (a 7), .i (a 8), .i (a 9), .i (a 10), .i (a 11), .i (a 12), .i (a 13), .i (a 14), .i (a 15), .i (a 16), .i (a 17), .i (a 18), .i (a 19), .i (a 20), .i (a 21), .i (a 22), .i (a 23), .i (a 24), .i (a 25), .i (a 26), .i (a 27), .i (a 28)]) = some (0, [.i (a 0), .i (a 1), .i (a 2), .i (a 3), .n n, .l h, .i (a 5), .i (a 6), .i (a 7), .i (a 8), .i (a 9), .i (a 10), .i (a 11), .i (a 12), .i (a 13), .i (a 14), .i (a 15), .i (a 16), .i (a 17), .i (a 18), .i (a 19), .i (a 20), .i (a 21), .i (a 22), .i (a 23), .i (a 24), .i (a 25), .i (a 26), .i (a 27), .i (a 28)]) ∨ L13_0 (0, [.i w, .i (a 9), .i (a 10), .i (a 11), .i (a 12), .i (a 0), .i (a 1), .i (a 2), .i (a 3), .n n, .l h, .i (a 5), .i (a 6), .i (a 7), .i (a 8), .i (a 9), .i (a 10), .i (a 11), .i (a 12), .i (a 13), .i (a 14), .i (a 15), .i (a 16), .i (a 17), .i (a 18), .i (a 19), .i (a 20), .i (a 21), .i (a 22), .i (a 23), .i (a 24), .i (a 25), .i (a 26), .i (a 27), .i (a 28)]) = some (1, [.i (a 9), .i (a 10), .i (a 11), .i (a 12), .i (a 0), .i (a 1), .i (a 2), .i (a 3), .n n, .l h, .i (a 5), .i (a 6), .i (a 7), .i (a 8), .i (a 9), .i (a 10), .i (a 11), .i (a 12), .i (a 13), .i (a 14), .i (a 15), .i (a 16), .i (a 17), .i (a 18), .i (a 19), .i (a 20), .i (a 21), .i (a 22), .i (a 23), .i (a 24), .i (a 25), .i (a 26), .i (a 27), .i (a 28)]) := by
  have := loop_chain (m := 20) (f := f13_0) (fun k => (0 + k, [.i w, .i (a 9), .i (a 10), .i (a 11), .i (a 12), .i (a 0), .i (a 1), .i (a 2), .i (a 3), .n n, .l h, .i (a 5), .i (a 6), .i (a 7), .i (a 8), .i (a 9), .i (a 10), .i (a 11), .i (a 12), .i (a 13), .i (a 14), .i (a 15), .i (a 16), .i (a 17), .i (a 18), .i (a 19), .i (a 20), .i (a 21), .i (a 22), .i (a 23), .i (a 24), .i (a 25), .i (a 26), .i (a 27), .i (a 28)])) 4 (ja := 0) (jb := 1) (ra := [.i (a 0), .i (a 1), .i (a 2), .i (a 3), .n n, .l h, .i (a 5), .i (a 6), .i (a 7), .i (a 8), .i (a 9), .i (a 10), .i (a 11), .i (a 12), .i (a 13), .i (a 14), .i (a 15), .i (a 16), .i (a 17), .i (a 18), .i (a 19), .i (a 20), .i (a 21), .i (a 22), .i (a 23), .i (a 24), .i (a 25), .i (a 26), .i (a 27), .i (a 28)]) (rb := [.i (a 9), .i (a 10), .i (a 11), .i (a 12), .i (a 0), .i (a 1), .i (a 2), .i (a 3), .n n, .l h, .i (a 5), .i (a 6), .i (a 7), .i (a 8), .i (a 9), .i (a 10), .i (a 11), .i (a 12), .i (a 13), .i (a 14), .i (a 15), .i (a 16), .i (a 17), .i (a 18), .i (a 19), .i (a 20), .i (a 21), .i (a 22), .i (a 23), .i (a 24), .i (a 25), .i (a 26), .i (a 27), .i (a 28)]) (fun k hk => by show 0 + k < 20; omega) (fun k hk => ?_) ?_ (by omega)
  · unfold L13_0; exact this
  · match k, hk with
    | 0, _ => exact rq_0 a n h w
    | 1, _ => exact rq_1 a n h w
    | 2, _ => exact rq_2 a n h w
    | 3, _ => exact rq_3 a n h w
    | k + 4, hk => omega
  · show f13_0 (4, [.i w, .i (a 9), .i (a 10), .i (a 11), .i (a 12), .i (a 0), .i (a 1), .i (a 2), .i (a 3), .n n, .l h, .i (a 5), .i (a 6), .i (a 7), .i (a 8), .i (a 9), .i (a 10), .i (a 11), .i (a 12), .i (a 13), .i (a 14), .i (a 15), .i (a 16), .i (a 17), .i (a 18), .i (a 19), .i (a 20), .i (a 21), .i (a 22), .i (a 23), .i (a 24), .i (a 25), .i (a 26), .i (a 27), .i (a 28)]) = _
    simp -implicitDefEqProofs only [f13_0, f13_0_4, asI_i, asN_n, asL_l, asB_b, asX_x, asE_nil, ↓Bool.cond_decide, Bool.cond_not, cond_true, cond_false, Bool.not_true, Bool.not_false]
theorem rw_0 (a : Nat → Int) (n : Nat) (h : List Int) : f13_1 (0, [.i (a 9), .i (a 10), .i (a 11), .i (a 12), .i (a 0), .i (a 1), .i (a 2), .i (a 3), .n n, .l h, .i (a 5), .i (a 6), .i (a 7), .i (a 8), .i (a 9), .i (a 10), .i (a 11), .i (a 12), .i (a 13), .i (a 14), .i (a 15), .i (a 16), .i (a 17), .i (a 18), .i (a 19), .i (a 20), .i (a 21), .i (a 22), .i (a 23), .i (a 24), .i (a 25), .i (a 26), .i (a 27), .i (a 28)]) = some (1, [.i (a 9), .i (a 10), .i (a 11), .i (a 12), .i (a 0), .i (a 1), .i (a 2), .i (a 3), .n n, .l h, .i (a 5), .i (a 6), .i (a 7), .i (a 8), .i (a 9), .i (a 10), .i (a 11), .i (a 12), .i (a 13), .i (a 14), .i (a 15), .i (a 16), .i (a 17), .i (a 18), .i (a 19), .i (a 20), .i (a 21), .i (a 22), .i (a 23), .i (a 24), .i (a 25), .i (a 26), .i (a 27), .i (a 28)]) ∨ f13_1 (0, [.i (a 9), .i (a 10), .i (a 11), .i (a 12), .i (a 0), .i (a 1), .i (a 2), .i (a 3), .n n, .l h, .i (a 5), .i (a 6), .i (a 7), .i (a 8), .i (a 9), .i (a 10), .i (a 11), .i (a 12), .i (a 13), .i (a 14), .i (a 15), .i (a 16), .i (a 17), .i (a 18), .i (a 19), .i (a 20), .i (a 21), .i (a 22), .i (a 23), .i (a 24), .i (a 25), .i (a 26), .i (a 27), .i (a 28)]) = some (5 + 0, [.i (a 0), .i (a 1), .i (a 2), .i (a 3), .n n, .l h, .i (a 5), .i (a 6), .i (a 7), .i (a 8), .i (a 9), .i (a 10), .i (a 11), .i (a 12), .i (a 13), .i (a 14), .i (a 15), .i (a 16), .i (a 17), .i (a 18), .i (a 19), .i (a 20), .i (a 21), .i (a 22), .i (a 23), .i (a 24), .i (a 25), .i (a 26), .i (a 27), .i (a 28)]) := by
  by_cases c1 : (a 9) < 0
  · right
    simp -implicitDefEqProofs only [f13_1, f13_1_0, asI_i, asN_n, asL_l, asB_b, asX_x, asE_nil, ↓Bool.cond_decide, Bool.cond_not, cond_true, cond_false, Bool.not_true, Bool.not_false, if_pos c1]
  · by_cases c2 : 24 < (a 9)
    · right
      simp -implicitDefEqProofs only [f13_1, f13_1_0, asI_i, asN_n, asL_l, asB_b, asX_x, asE_nil, ↓Bool.cond_decide, Bool.cond_not, cond_true, cond_false, Bool.not_true, Bool.not_false, if_neg c1, if_pos c2]
    · rcases rg_0 a n h (a 9) with e | e
      · right
        simp -implicitDefEqProofs only [f13_1, f13_1_0, asI_i, asN_n, asL_l, asB_b, asX_x, asE_nil, ↓Bool.cond_decide, Bool.cond_not, cond_true, cond_false, Bool.not_true, Bool.not_false, if_neg c1, if_neg c2, e, altK_0]
      · left
        simp -implicitDefEqProofs only [f13_1, f13_1_0, asI_i, asN_n, asL_l, asB_b, asX_x, asE_nil, ↓Bool.cond_decide, Bool.cond_not, cond_true, cond_false, Bool.not_true, Bool.not_false, if_neg c1, if_neg c2, e, altK_1]
theorem rq_5 (a : Nat → Int) (n : Nat) (h : List Int) (w : Int) : f13_0 (5, [.i w, .i (a 9), .i (a 10), .i (a 11), .i (a 12), .i (a 0), .i (a 1), .i (a 2), .i (a 3), .n n, .l h, .i (a 5), .i (a 6), .i (a 7), .i (a 8), .i (a 9), .i (a 10), .i (a 11), .i (a 12), .i (a 13), .i (a 14), .i (a 15), .i (a 16), .i (a 17), .i (a 18), .i (a 19), .i (a 20), .i (a 21), .i (a 22), .i (a 23), .i (a 24), .i (a 25), .i (a 26), .i (a 27), .i (a 28)]) = some (6, [.i w, .i (a 9), .i (a 10), .i (a 11), .i (a 12), .i (a 0), .i (a 1), .i (a 2), .i (a 3), .n n, .l h, .i (a 5), .i (a 6), .i (a 7), .i (a 8), .i (a 9), .i (a 10), .i (a 11), .i (a 12), .i (a 13), .i (a 14), .i (a 15), .i (a 16), .i (a 17), .i (a 18), .i (a 19), .i (a 20), .i (a 21), .i (a 22), .i (a 23), .i (a 24), .i (a 25), .i (a 26), .i (a 27), .i (a 28)]) ∨ f13_0 (5, [.i w, .i (a 9), .i (a 10), .i (a 11), .i (a 12), .i (a 0), .i (a 1), .i (a 2), .i (a 3), .n n, .l h, .i (a 5), .i (a 6), .i (a 7), .i (a 8), .i (a 9), .i (a 10), .i (a 11), .i (a 12), .i (a 13), .i (a 14), .i (a 15), .i (a 16), .i (a 17), .i (a 18), .i (a 19), .i (a 20), .i (a 21), .i (a 22), .i (a 23), .i (a 24), .i (a 25), .i (a 26), .i (a 27), .i (a 28)]) = some (20 + 0, [.i (a 0), .i (a 1), .i (a 2), .i (a 3), .n n, .l h, .i (a 5), .i (a 6), .i (a 7), .i (a 8), .i (a 9), .i (a 10), .i (a 11), .i (a 12), .i (a 13), .i (a 14), .i (a 15), .i (a 16), .i (a 17), .i (a 18), .i (a 19), .i (a 20), .i (a 21), .i (a 22), .i (a 23), .i (a 24), .i (a 25), .i (a 26), .i (a 27), .i (a 28)]) := by
  obtain ⟨b, hb⟩ := fits_v (a 17) w
  cases b
  · right
    simp -implicitDefEqProofs only [f13_0, f13_0_5, asI_i, asN_n, asL_l, asB_b, asX_x, asE_nil, ↓Bool.cond_decide, Bool.cond_not, cond_true, cond_false, Bool.not_true, Bool.not_false, hb, altK_0, Bool.not_false, cond_true]
  · left
    simp -implicitDefEqProofs only [f13_0, f13_0_5, asI_i, asN_n, asL_l, asB_b, asX_x, asE_nil, ↓Bool.cond_decide, Bool.cond_not, cond_true, cond_false, Bool.not_true, Bool.not_false, hb, altK_0, Bool.not_true, cond_false]
theorem rq_6 (a : Nat → Int) (n : Nat) (h : List Int) (w : Int) : f13_0 (6, [.i w, .i (a 9), .i (a 10), .i (a 11), .i (a 12), .i (a 0), .i (a 1), .i (a 2), .i (a 3), .n n, .l h, .i (a 5), .i (a 6), .i (a 7), .i (a 8), .i (a 9), .i (a 10), .i (a 11), .i (a 12), .i (a 13), .i (a 14), .i (a 15), .i (a 16), .i (a 17), .i (a 18), .i (a 19), .i (a 20), .i (a 21), .i (a 22), .i (a 23), .i (a 24), .i (a 25), .i (a 26), .i (a 27), .i (a 28)]) = some (7, [.i w, .i (a 9), .i (a 10), .i (a 11), .i (a 12), .i (a 0), .i (a 1), .i (a 2), .i (a 3), .n n, .l h, .i (a 5), .i (a 6), .i (a 7), .i (a 8), .i (a 9), .i (a 10), .i (a 11), .i (a 12), .i (a 13), .i (a 14), .i (a 15), .i (a 16), .i (a 17), .i (a 18), .i (a 19), .i (a 20), .i (a 21), .i (a 22), .i (a 23), .i (a 24), .i (a 25), .i (a 26), .i (a 27), .i (a 28)]) ∨ f13_0 (6, [.i w, .i (a 9), .i (a 10), .i (a 11), .i (a 12), .i (a 0), .i (a 1), .i (a 2), .i (a 3), .n n, .l h, .i (a 5), .i (a 6), .i (a 7), .i (a 8), .i (a 9), .i (a 10), .i (a 11), .i (a 12), .i (a 13), .i (a 14), .i (a 15), .i (a 16), .i (a 17), .i (a 18), .i (a 19), .i (a 20), .i (a 21), .i (a 22), .i (a 23), .i (a 24), .i (a 25), .i (a 26), .i (a 27), .i (a 28)]) = some (20 + 0, [.i (a 0), .i (a 1), .i (a 2), .i (a 3), .n n, .l h, .i (a 5), .i (a 6), .i (a 7), .i (a 8), .i (a 9), .i (a 10), .i (a 11), .i (a 12), .i (a 13), .i (a 14), .i (a 15), .i (a 16), .i (a 17), .i (a 18), .i (a 19), .i (a 20), .i (a 21), .i (a 22), .i (a 23), .i (a 24), .i (a 25), .i (a 26), .i (a 27), .i (a 28)]) := by
  obtain ⟨b, hb⟩ := fits_v (a 18) w
  cases b
  · right
    simp -implicitDefEqProofs only [f13_0, f13_0_6, asI_i, asN_n, asL_l, asB_b, asX_x, asE_nil, ↓Bool.cond_decide, Bool.cond_not, cond_true, cond_false, Bool.not_true, Bool.not_false, hb, altK_0, Bool.not_false, cond_true]
  · left
    simp -implicitDefEqProofs only [f13_0, f13_0_6, asI_i, asN_n, asL_l, asB_b, asX_x, asE_nil, ↓Bool.cond_decide, Bool.cond_not, cond_true, cond_false, Bool.not_true, Bool.not_false, hb, altK_0, Bool.not_true, cond_false]
theorem rq_7 (a : Nat → Int) (n : Nat) (h : List Int) (w : Int) : f13_0 (7, [.i w, .i (a 9), .i (a 10), .i (a 11), .i (a 12), .i (a 0), .i (a 1), .i (a 2), .i (a 3), .n n, .l h, .i (a 5), .i (a 6), .i (a 7), .i (a 8), .i (a 9), .i (a 10), .i (a 11), .i (a 12), .i (a 13), .i (a 14), .i (a 15), .i (a 16), .i (a 17), .i (a 18), .i (a 19), .i (a 20), .i (a 21), .i (a 22), .i (a 23), .i (a 24), .i (a 25), .i (a 26), .i (a 27), .i (a 28)]) = some (8, [.i w, .i (a 9), .i (a 10), .i (a 11), .i (a 12), .i (a 0), .i (a 1), .i (a 2), .i (a 3), .n n, .l h, .i (a 5), .i (a 6), .i (a 7), .i (a 8), .i (a 9), .i (a 10), .i (a 11), .i (a 12), .i (a 13), .i (a 14), .i (a 15), .i (a 16), .i (a 17), .i (a 18), .i (a 19), .i (a 20), .i (a 21), .i (a 22), .i (a 23), .i (a 24), .i (a 25), .i (a 26), .i (a 27), .i (a 28)]) ∨ f13_0 (7, [.i w, .i (a 9), .i (a 10), .i (a 11), .i (a 12), .i (a 0), .i (a 1), .i (a 2), .i (a 3), .n n, .l h, .i (a 5), .i (a 6), .i (a 7), .i (a 8), .i (a 9), .i (a 10), .i (a 11), .i (a 12), .i (a 13), .i (a 14), .i (a 15), .i (a 16), .i (a 17), .i (a 18), .i (a 19), .i (a 20), .i (a 21), .i (a 22), .i (a 23), .i (a 24), .i (a 25), .i (a 26), .i (a 27), .i (a 28)]) = some (20 + 0, [.i (a 0), .i (a 1), .i (a 2), .i (a 3), .n n, .l h, .i (a 5), .i (a 6), .i (a 7), .i (a 8), .i (a 9), .i (a 10), .i (a 11), .i (a 12), .i (a 13), .i (a 14), .i (a 15), .i (a 16), .i (a 17), .i (a 18), .i (a 19), .i (a 20), .i (a 21), .i (a 22), .i (a 23), .i (a 24), .i (a 25), .i (a 26), .i (a 27), .i (a 28)]) := by
  obtain ⟨b, hb⟩ := fits_v (a 19) w
  cases b
  · right
    simp -implicitDefEqProofs only [f13_0, f13_0_7, asI_i, asN_n, asL_l, asB_b, asX_x, asE_nil, ↓Bool.cond_decide, Bool.cond_not, cond_true, cond_false, Bool.not_true, Bool.not_false, hb, altK_0, Bool.not_false, cond_true]
  · left
    simp -implicitDefEqProofs only [f13_0, f13_0_7, asI_i, asN_n, asL_l, asB_b, asX_x, asE_nil, ↓Bool.cond_decide, Bool.cond_not, cond_true, cond_false, Bool.not_true, Bool.not_false, hb, altK_0, Bool.not_true, cond_false]
theorem rq_8 (a : Nat → Int) (n : Nat) (h : List Int) (w : Int) : f13_0 (8, [.i w, .i (a 9), .i (a 10), .i (a 11), .i (a 12), .i (a 0), .i (a 1), .i (a 2), .i (a 3), .n n, .l h, .i (a 5), .i (a 6), .i (a 7), .i (a 8), .i (a 9), .i (a 10), .i (a 11), .i (a 12), .i (a 13), .i (a 14), .i (a 15), .i (a 16), .i (a 17), .i (a 18), .i (a 19), .i (a 20), .i (a 21), .i (a 22), .i (a 23), .i (a 24), .i (a 25), .i (a 26), .i (a 27), .i (a 28)]) = some (9, [.i w, .i (a 9), .i (a 10), .i (a 11), .i (a 12), .i (a 0), .i (a 1), .i (a 2), .i (a 3), .n n, .l h, .i (a 5), .i (a 6), .i (a 7), .i (a 8), .i (a 9), .i (a 10), .i (a 11), .i (a 12), .i (a 13), .i (a 14), .i (a 15), .i (a 16), .i (a 17), .i (a 18), .i (a 19), .i (a 20), .i (a 21), .i (a 22), .i (a 23), .i (a 24), .i (a 25), .i (a 26), .i (a 27), .i (a 28)]) ∨ f13_0 (8, [.i w, .i (a 9), .i (a 10), .i (a 11), .i (a 12), .i (a 0), .i (a 1), .i (a 2), .i (a 3), .n n, .l h, .i (a 5), .i (a 6), .i (a 7), .i (a 8), .i (a 9), .i (a 10), .i (a 11), .i (a 12), .i (a 13), .i (a 14), .i (a 15), .i (a 16), .i (a 17), .i (a 18), .i (a 19), .i (a 20), .i (a 21), .i (a 22), .i (a 23), .i (a 24), .i (a 25), .i (a 26), .i (a 27), .i (a 28)]) = some (20 + 0, [.i (a 0), .i (a 1), .i (a 2), .i (a 3), .n n, .l h, .i (a 5), .i (a 6), .i (a 7), .i (a 8), .i (a 9), .i (a 10), .i (a 11), .i (a 12), .i (a 13), .i (a 14), .i (a 15), .i (a 16), .i (a 17), .i (a 18), .i (a 19), .i (a 20), .i (a 21), .i (a 22), .i (a 23), .i (a 24), .i (a 25), .i (a 26), .i (a 27), .i (a 28)]) := by
  obtain ⟨b, hb⟩ := fits_v (a 20) w
  cases b
  · right
    simp -implicitDefEqProofs only [f13_0, f13_0_8, asI_i, asN_n, asL_l, asB_b, asX_x, asE_nil, ↓Bool.cond_decide, Bool.cond_not, cond_true, cond_false, Bool.not_true, Bool.not_false, hb, altK_0, Bool.not_false, cond_true]
  · left
    simp -implicitDefEqProofs only [f13_0, f13_0_8, asI_i, asN_n, asL_l, asB_b, asX_x, asE_nil, ↓Bool.cond_decide, Bool.cond_not, cond_true, cond_false, Bool.not_true, Bool.not_false, hb, altK_0, Bool.not_true, cond_false]
theorem rg_1 (a : Nat → Int) (n : Nat) (h : List Int) (w : Int) : L13_0 (5, [.i w, .i (a 9), .i (a 10), .i (a 11), .i (a 12), .i (a 0), .i (a 1), .i (a 2), .i (a 3), .n n, .l h, .i (a 5), .i (a 6), .i (a 7), .i (a 8), .i (a 9), .i (a 10), .i (a 11), .i (a 12), .i (a 13), .i (a 14), .i (a 15), .i (a 16), .i (a 17), .i (a 18), .i (a 19), .i (a 20), .i (a 21), .i (a 22), .i (a 23), .i (a 24), .i (a 25), .i (a 26), .i (a 27), .i (a 28)]) = some (0, [.i (a 0), .i (a 1), .i (a 2), .i (a 3), .n n, .l h, .i (a 5), .i (a 6), .i (a 7), .i (a 8), .i (a 9), .i (a 10), .i (a 11), .i (a 12), .i (a 13), .i (a 14), .i (a 15), .i (a 16), .i (a 17), .i (a 18), .i (a 19), .i (a 20), .i (a 21), .i (a 22), .i (a 23), .i (a 24), .i (a 25), .i (a 26), .i (a 27), .i (a 28)]) ∨ L13_0 (5, [.i w, .i (a 9), .i (a 10), .i (a 11), .i (a 12), .i (a 0), .i (a 1), .i (a 2), .i (a 3), .n n, .l h, .i (a 5), .i (a 6), .i (a 7), .i (a 8), .i (a 9), .i (a 10), .i (a 11), .i (a 12), .i (a 13), .i (a 14), .i (a 15), .i (a 16), .i (a 17), .i (a 18), .i (a 19), .i (a 20), .i (a 21), .i (a 22), .i (a 23), .i (a 24), .i (a 25), .i (a 26), .i (a 27), .i (a 28)]) = some (2, [.i (a 9), .i (a 10), .i (a 11), .i (a 12), .i (a 0), .i (a 1), .i (a 2), .i (a 3), .n n, .l h, .i (a 5), .i (a 6), .i (a 7), .i (a 8), .i (a 9), .i (a 10), .i (a 11), .i (a 12), .i (a 13), .i (a 14), .i (a 15), .i (a 16), .i (a 17), .i (a 18), .i (a 19), .i (a 20), .i (a 21), .i (a 22), .i (a 23), .i (a 24), .i (a 25), .i (a 26), .i (a 27), .i (a 28)]) := by
  have := loop_chain (m := 20) (f := f13_0) (fun k => (5 + k, [.i w, .i (a 9), .i (a 10), .i (a 11), .i (a 12), .i (a 0), .i (a 1), .i (a 2), .i (a 3), .n n, .l h, .i (a 5), .i (a 6), .i (a 7), .i (a 8), .i (a 9), .i (a 10), .i (a 11), .i (a 12), .i (a 13), .i (a 14), .i (a 15), .i (a 16), .i (a 17), .i (a 18), .i (a 19), .i (a 20), .i (a 21), .i (a 22), .i (a 23), .i (a 24), .i (a 25), .i (a 26), .i (a 27), .i (a 28)])) 4 (ja := 0) (jb := 2) (ra := [.i (a 0), .i (a 1), .i (a 2), .i (a 3), .n n, .l h, .i (a 5), .i (a 6), .i (a 7), .i (a 8), .i (a 9), .i (a 10), .i (a 11), .i (a 12), .i (a 13), .i (a 14), .i (a 15), .i (a 16), .i (a 17), .i (a 18), .i (a 19), .i (a 20), .i (a 21), .i (a 22), .i (a 23), .i (a 24), .i (a 25), .i (a 26), .i (a 27), .i (a 28)]) (rb := [.i (a 9), .i (a 10), .i (a 11), .i (a 12), .i (a 0), .i (a 1), .i (a 2), .i (a 3), .n n, .l h, .i (a 5), .i (a 6), .i (a 7), .i (a 8), .i (a 9), .i (a 10), .i (a 11), .i (a 12), .i (a 13), .i (a 14), .i (a 15), .i (a 16), .i (a 17), .i (a 18), .i (a 19), .i (a 20), .i (a 21), .i (a 22), .i (a 23), .i (a 24), .i (a 25), .i (a 26), .i (a 27), .i (a 28)]) (fun k hk => by show 5 + k < 20; omega) (fun k hk => ?_) ?_ (by omega)
  · unfold L13_0; exact this
  · match k, hk with
    | 0, _ => exact rq_5 a n h w
    | 1, _ => exact rq_6 a n h w
    | 2, _ => exact rq_7 a n h w
    | 3, _ => exact rq_8 a n h w
    | k + 4, hk => omega
  · show f13_0 (9, [.i w, .i (a 9), .i (a 10), .i (a 11), .i (a 12), .i (a 0), .i (a 1), .i (a 2), .i (a 3), .n n, .l h, .i (a 5), .i (a 6), .i (a 7), .i (a 8), .i (a 9), .i (a 10), .i (a 11), .i (a 12), .i (a 13), .i (a 14), .i (a 15), .i (a 16), .i (a 17), .i (a 18), .i (a 19), .i (a 20), .i (a 21), .i (a 22), .i (a 23), .i (a 24), .i (a 25), .i (a 26), .i (a 27), .i (a 28)]) = _
    simp -implicitDefEqProofs only [f13_0, f13_0_9, asI_i, asN_n, asL_l, asB_b, asX_x, asE_nil, ↓Bool.cond_decide, Bool.cond_not, cond_true, cond_false, Bool.not_true, Bool.not_false]
theorem rw_1 (a : Nat → Int) (n : Nat) (h : List Int) : f13_1 (1, [.i (a 9), .i (a 10), .i (a 11), .i (a 12), .i (a 0), .i (a 1), .i (a 2), .i (a 3), .n n, .l h, .i (a 5), .i (a 6), .i (a 7), .i (a 8), .i (a 9), .i (a 10), .i (a 11), .i (a 12), .i (a 13), .i (a 14), .i (a 15), .i (a 16), .i (a 17), .i (a 18), .i (a 19), .i (a 20), .i (a 21), .i (a 22), .i (a 23), .i (a 24), .i (a 25), .i (a 26), .i (a 27), .i (a 28)]) = some (2, [.i (a 9), .i (a 10), .i (a 11), .i (a 12), .i (a 0), .i (a 1), .i (a 2), .i (a 3), .n n, .l h, .i (a 5), .i (a 6), .i (a 7), .i (a 8), .i (a 9), .i (a 10), .i (a 11), .i (a 12), .i (a 13), .i (a 14), .i (a 15), .i (a 16), .i (a 17), .i (a 18), .i (a 19), .i (a 20), .i (a 21), .i (a 22), .i (a 23), .i (a 24), .i (a 25), .i (a 26), .i (a 27), .i (a 28)]) ∨ f13_1 (1, [.i (a 9), .i (a 10), .i (a 11), .i (a 12), .i (a 0), .i (a 1), .i (a 2), .i (a 3), .n n, .l h, .i (a 5), .i (a 6), .i (a 7), .i (a 8), .i (a 9), .i (a 10), .i (a 11), .i (a 12), .i (a 13), .i (a 14), .i (a 15), .i (a 16), .i (a 17), .i (a 18), .i (a 19), .i (a 20), .i (a 21), .i (a 22), .i (a 23), .i (a 24), .i (a 25), .i (a 26), .i (a 27), .i (a 28)]) = some (5 + 0, [.i (a 0), .i (a 1), .i (a 2), .i (a 3), .n n, .l h, .i (a 5), .i (a 6), .i (a 7), .i (a 8), .i (a 9), .i (a 10), .i (a 11), .i (a 12), .i (a 13), .i (a 14), .i (a 15), .i (a 16), .i (a 17), .i (a 18), .i (a 19), .i (a 20), .i (a 21), .i (a 22), .i (a 23), .i (a 24), .i (a 25), .i (a 26), .i (a 27), .i (a 28)]) := by
  by_cases c1 : (a 10) < 0
  · right
    simp -implicitDefEqProofs only [f13_1, f13_1_1, asI_i, asN_n, asL_l, asB_b, asX_x, asE_nil, ↓Bool.cond_decide, Bool.cond_not, cond_true, cond_false, Bool.not_true, Bool.not_false, if_pos c1]
  · by_cases c2 : 24 < (a 10)
    · right
      simp -implicitDefEqProofs only [f13_1, f13_1_1, asI_i, asN_n, asL_l, asB_b, asX_x, asE_nil, ↓Bool.cond_decide, Bool.cond_not, cond_true, cond_false, Bool.not_true, Bool.not_false, if_neg c1, if_pos c2]
    · rcases rg_1 a n h (a 10) with e | e
      · right
        simp -implicitDefEqProofs only [f13_1, f13_1_1, asI_i, asN_n, asL_l, asB_b, asX_x, asE_nil, ↓Bool.cond_decide, Bool.cond_not, cond_true, cond_false, Bool.not_true, Bool.not_false, if_neg c1, if_neg c2, e, altK_0]
      · left
        simp -implicitDefEqProofs only [f13_1, f13_1_1, asI_i, asN_n, asL_l, asB_b, asX_x, asE_nil, ↓Bool.cond_decide, Bool.cond_not, cond_true, cond_false, Bool.not_true, Bool.not_false, if_neg c1, if_neg c2, e, altK_2]
theorem rq_10 (a : Nat → Int) (n : Nat) (h : List Int) (w : Int) : f13_0 (10, [.i w, .i (a 9), .i (a 10), .i (a 11), .i (a 12), .i (a 0), .i (a 1), .i (a 2), .i (a 3), .n n, .l h, .i (a 5), .i (a 6), .i (a 7), .i (a 8), .i (a 9), .i (a 10), .i (a 11), .i (a 12), .i (a 13), .i (a 14), .i (a 15), .i (a 16), .i (a 17), .i (a 18), .i (a 19), .i (a 20), .i (a 21), .i (a 22), .i (a 23), .i (a 24), .i (a 25), .i (a 26), .i (a 27), .i (a 28)]) = some (11, [.i w, .i (a 9), .i (a 10), .i (a 11), .i (a 12), .i (a 0), .i (a 1), .i (a 2), .i (a 3), .n n, .l h, .i (a 5), .i (a 6), .i (a 7), .i (a 8), .i (a 9), .i (a 10), .i (a 11), .i (a 12), .i (a 13), .i (a 14), .i (a 15), .i (a 16), .i (a 17), .i (a 18), .i (a 19), .i (a 20), .i (a 21), .i (a 22), .i (a 23), .i (a 24), .i (a 25), .i (a 26), .i (a 27), .i (a 28)]) ∨ f13_0 (10, [.i w, .i (a 9), .i (a 10), .i (a 11), .i (a 12), .i (a 0), .i (a 1), .i (a 2), .i (a 3), .n n, .l h, .i (a 5), .i (a 6), .i (a 7), .i (a 8), .i (a 9), .i (a 10), .i (a 11), .i (a 12), .i (a 13), .i (a 14), .i (a 15), .i (a 16), .i (a 17), .i (a 18), .i (a 19), .i (a 20), .i (a 21), .i (a 22), .i (a 23), .i (a 24), .i (a 25), .i (a 26), .i (a 27), .i (a 28)]) = some (20 + 0, [.i (a 0), .i (a 1), .i (a 2), .i (a 3), .n n, .l h, .i (a 5), .i (a 6), .i (a 7), .i (a 8), .i (a 9), .i (a 10), .i (a 11), .i (a 12), .i (a 13), .i (a 14), .i (a 15), .i (a 16), .i (a 17), .i (a 18), .i (a 19), .i (a 20), .i (a 21), .i (a 22), .i (a 23), .i (a 24), .i (a 25), .i (a 26), .i (a 27), .i (a 28)]) := by
  obtain ⟨b, hb⟩ := fits_v (a 21) w
  cases b
  · right
    simp -implicitDefEqProofs only [f13_0, f13_0_10, asI_i, asN_n, asL_l, asB_b, asX_x, asE_nil, ↓Bool.cond_decide, Bool.cond_not, cond_true, cond_false, Bool.not_true, Bool.not_false, hb, altK_0, Bool.not_false, cond_true]
  · left
    simp -implicitDefEqProofs only [f13_0, f13_0_10, asI_i, asN_n, asL_l, asB_b, asX_x, asE_nil, ↓Bool.cond_decide, Bool.cond_not, cond_true, cond_false, Bool.not_true, Bool.not_false, hb, altK_0, Bool.not_true, cond_false]
theorem rq_11 (a : Nat → Int) (n : Nat) (h : List Int) (w : Int) : f13_0 (11, [.i w, .i (a 9), .i (a 10), .i (a 11), .i (a 12), .i (a 0), .i (a 1), .i (a 2), .i (a 3), .n n, .l h, .i (a 5), .i (a 6), .i (a 7), .i (a 8), .i (a 9), .i (a 10), .i (a 11), .i (a 12), .i (a 13), .i (a 14), .i (a 15), .i (a 16), .i (a 17), .i (a 18), .i (a 19), .i (a 20), .i (a 21), .i (a 22), .i (a 23), .i (a 24), .i (a 25), .i (a 26), .i (a 27), .i (a 28)]) = some (12, [.i w, .i (a 9), .i (a 10), .i (a 11), .i (a 12), .i (a 0), .i (a 1), .i (a 2), .i (a 3), .n n, .l h, .i (a 5), .i (a 6), .i (a 7), .i (a 8), .i (a 9), .i (a 10), .i (a 11), .i (a 12), .i (a 13), .i (a 14), .i (a 15), .i (a 16), .i (a 17), .i (a 18), .i (a 19), .i (a 20), .i (a 21), .i (a 22), .i (a 23), .i (a 24), .i (a 25), .i (a 26), .i (a 27), .i (a 28)]) ∨ f13_0 (11, [.i w, .i (a 9), .i (a 10), .i (a 11), .i (a 12), .i (a 0), .i (a 1), .i (a 2), .i (a 3), .n n, .l h, .i (a 5), .i (a 6), .i (a 7), .i (a 8), .i (a 9), .i (a 10), .i (a 11), .i (a 12), .i (a 13), .i (a 14), .i (a 15), .i (a 16), .i (a 17), .i (a 18), .i (a 19), .i (a 20), .i (a 21), .i (a 22), .i (a 23), .i (a 24), .i (a 25), .i (a 26), .i (a 27), .i (a 28)]) = some (20 + 0, [.i (a 0), .i (a 1), .i (a 2), .i (a 3), .n n, .l h, .i (a 5), .i (a 6), .i (a 7), .i (a 8), .i (a 9), .i (a 10), .i (a 11), .i (a 12), .i (a 13), .i (a 14), .i (a 15), .i (a 16), .i (a 17), .i (a 18), .i (a 19), .i (a 20), .i (a 21), .i (a 22), .i (a 23), .i (a 24), .i (a 25), .i (a 26), .i (a 27), .i (a 28)]) := by
  obtain ⟨b, hb⟩ := fits_v (a 22) w
  cases b
  · right
    simp -implicitDefEqProofs only [f13_0, f13_0_11, asI_i, asN_n, asL_l, asB_b, asX_x, asE_nil, ↓Bool.cond_decide, Bool.cond_not, cond_true, cond_false, Bool.not_true, Bool.not_false, hb, altK_0, Bool.not_false, cond_true]
  · left
    simp -implicitDefEqProofs only [f13_0, f13_0_11, asI_i, asN_n, asL_l, asB_b, asX_x, asE_nil, ↓Bool.cond_decide, Bool.cond_not, cond_true, cond_false, Bool.not_true, Bool.not_false, hb, altK_0, Bool.not_true, cond_false]
theorem rq_12 (a : Nat → Int) (n : Nat) (h : List Int) (w : Int) : f13_0 (12, [.i w, .i (a 9), .i (a 10), .i (a 11), .i (a 12), .i (a 0), .i (a 1), .i (a 2), .i (a 3), .n n, .l h, .i (a 5), .i (a 6), .i (a 7), .i (a 8), .i (a 9), .i (a 10), .i (a 11), .i (a 12), .i (a 13), .i (a 14), .i (a 15), .i (a 16), .i (a 17), .i (a 18), .i (a 19), .i (a 20), .i (a 21), .i (a 22), .i (a 23), .i (a 24), .i (a 25), .i (a 26), .i (a 27), .i (a 28)]) = some (13, [.i w, .i (a 9), .i (a 10), .i (a 11), .i (a 12), .i (a 0), .i (a 1), .i (a 2), .i (a 3), .n n, .l h, .i (a 5), .i (a 6), .i (a 7), .i (a 8), .i (a 9), .i (a 10), .i (a 11), .i (a 12), .i (a 13), .i (a 14), .i (a 15), .i (a 16), .i (a 17), .i (a 18), .i (a 19), .i (a 20), .i (a 21), .i (a 22), .i (a 23), .i (a 24), .i (a 25), .i (a 26), .i (a 27), .i (a 28)]) ∨ f13_0 (12, [.i w, .i (a 9), .i (a 10), .i (a 11), .i (a 12), .i (a 0), .i (a 1), .i (a 2), .i (a 3), .n n, .l h, .i (a 5), .i (a 6), .i (a 7), .i (a 8), .i (a 9), .i (a 10), .i (a 11), .i (a 12), .i (a 13), .i (a 14), .i (a 15), .i (a 16), .i (a 17), .i (a 18), .i (a 19), .i (a 20), .i (a 21), .i (a 22), .i (a 23), .i (a 24), .i (a 25), .i (a 26), .i (a 27), .i (a 28)]) = some (20 + 0, [.i (a 0), .i (a 1), .i (a 2), .i (a 3), .n n, .l h, .i (a 5), .i (a 6), .i (a 7), .i (a 8), .i (a 9), .i (a 10), .i (a 11), .i (a 12), .i (a 13), .i (a 14), .i (a 15), .i (a 16), .i (a 17), .i (a 18), .i (a 19), .i (a 20), .i (a 21), .i (a 22), .i (a 23), .i (a 24), .i (a 25), .i (a 26), .i (a 27), .i (a 28)]) := by
  obtain ⟨b, hb⟩ := fits_v (a 23) w
  cases b
  · right
    simp -implicitDefEqProofs only [f13_0, f13_0_12, asI_i, asN_n, asL_l, asB_b, asX_x, asE_nil, ↓Bool.cond_decide, Bool.cond_not, cond_true, cond_false, Bool.not_true, Bool.not_false, hb, altK_0, Bool.not_false, cond_true]
  · left
    simp -implicitDefEqProofs only [f13_0, f13_0_12, asI_i, asN_n, asL_l, asB_b, asX_x, asE_nil, ↓Bool.cond_decide, Bool.cond_not, cond_true, cond_false, Bool.not_true, Bool.not_false, hb, altK_0, Bool.not_true, cond_false]
theorem rq_13 (a : Nat → Int) (n : Nat) (h : List Int) (w : Int) : f13_0 (13, [.i w, .i (a 9), .i (a 10), .i (a 11), .i (a 12), .i (a 0), .i (a 1), .i (a 2), .i (a 3), .n n, .l h, .i (a 5), .i (a 6), .i (a 7), .i (a 8), .i (a 9), .i (a 10), .i (a 11), .i (a 12), .i (a 13), .i (a 14), .i (a 15), .i (a 16), .i (a 17), .i (a 18), .i (a 19), .i (a 20), .i (a 21), .i (a 22), .i (a 23), .i (a 24), .i (a 25), .i (a 26), .i (a 27), .i (a 28)]) = some (14, [.i w, .i (a 9), .i (a 10), .i (a 11), .i (a 12), .i (a 0), .i (a 1), .i (a 2), .i (a 3), .n n, .l h, .i (a 5), .i (a 6), .i (a 7), .i (a 8), .i (a 9), .i (a 10), .i (a 11), .i (a 12), .i (a 13), .i (a 14), .i (a 15), .i (a 16), .i (a 17), .i (a 18), .i (a 19), .i (a 20), .i (a 21), .i (a 22), .i (a 23), .i (a 24), .i (a 25), .i (a 26), .i (a 27), .i (a 28)]) ∨ f13_0 (13, [.i w, .i (a 9), .i (a 10), .i (a 11), .i (a 12), .i (a 0), .i (a 1), .i (a 2), .i (a 3), .n n, .l h, .i (a 5), .i (a 6), .i (a 7), .i (a 8), .i (a 9), .i (a 10), .i (a 11), .i (a 12), .i (a 13), .i (a 14), .i (a 15), .i (a 16), .i (a 17), .i (a 18), .i (a 19), .i (a 20), .i (a 21), .i (a 22), .i (a 23), .i (a 24), .i (a 25), .i (a 26), .i (a 27), .i (a 28)]) = some (20 + 0, [.i (a 0), .i (a 1), .i (a 2), .i (a 3), .n n, .l h, .i (a 5), .i (a 6), .i (a 7), .i (a 8), .i (a 9), .i (a 10), .i (a 11), .i (a 12), .i (a 13), .i (a 14), .i (a 15), .i (a 16), .i (a 17), .i (a 18), .i (a 19), .i (a 20), .i (a 21), .i (a 22), .i (a 23), .i (a 24), .i (a 25), .i (a 26), .i (a 27), .i (a 28)]) := by
  obtain ⟨b, hb⟩ := fits_v (a 24) w
  cases b
  · right
    simp -implicitDefEqProofs only [f13_0, f13_0_13, asI_i, asN_n, asL_l, asB_b, asX_x, asE_nil, ↓Bool.cond_decide, Bool.cond_not, cond_true, cond_false, Bool.not_true, Bool.not_false, hb, altK_0, Bool.not_false, cond_true]
  · left
    simp -implicitDefEqProofs only [f13_0, f13_0_13, asI_i, asN_n, asL_l, asB_b, asX_x, asE_nil, ↓Bool.cond_decide, Bool.cond_not, cond_true, cond_false, Bool.not_true, Bool.not_false, hb, altK_0, Bool.not_true, cond_false]
theorem rg_2 (a : Nat → Int) (n : Nat) (h : List Int) (w : Int) : L13_0 (10, [.i w, .i (a 9), .i (a 10), .i (a 11), .i (a 12), .i (a 0), .i (a 1), .i (a 2), .i (a 3), .n n, .l h, .i (a 5), .i (a 6), .i (a 7), .i (a 8), .i (a 9), .i (a 10), .i (a 11), .i (a 12), .i (a 13), .i (a 14), .i (a 15), .i (a 16), .i (a 17), .i (a 18), .i (a 19), .i (a 20), .i (a 21), .i (a 22), .i (a 23), .i (a 24), .i (a 25), .i (a 26), .i (a 27), .i (a 28)]) = some (0, [.i (a 0), .i (a 1), .i (a 2), .i (a 3), .n n, .l h, .i (a 5), .i (a 6), .i (a 7), .i (a 8), .i (a 9), .i (a 10), .i (a 11), .i (a 12), .i (a 13), .i (a 14), .i (a 15), .i (a 16), .i (a 17), .i (a 18), .i (a 19), .i (a 20), .i (a 21), .i (a 22), .i (a 23), .i (a 24), .i (a 25), .i (a 26), .i (a 27), .i (a 28)]) ∨ L13_0 (10, [.i w, .i (a 9), .i (a 10), .i (a 11), .i (a 12), .i (a 0), .i (a 1), .i (a 2), .i (a 3), .n n, .l h, .i (a 5), .i (a 6), .i (a 7), .i (a 8), .i (a 9), .i (a 10), .i (a 11), .i (a 12), .i (a 13), .i (a 14), .i (a 15), .i (a 16), .i (a 17), .i (a 18), .i (a 19), .i (a 20), .i (a 21), .i (a 22), .i (a 23), .i (a 24), .i (a 25), .i (a 26), .i (a 27), .i (a 28)]) = some (3, [.i (a 9), .i (a 10), .i (a 11), .i (a 12), .i (a 0), .i (a 1), .i (a 2), .i (a 3), .n n, .l h, .i (a 5), .i (a 6), .i (a 7), .i (a 8), .i (a 9), .i (a 10), .i (a 11), .i (a 12), .i (a 13), .i (a 14), .i (a 15), .i (a 16), .i (a 17), .i (a 18), .i (a 19), .i (a 20), .i (a 21), .i (a 22), .i (a 23), .i (a 24), .i (a 25), .i (a 26), .i (a 27), .i (a 28)]) := by
  have := loop_chain (m := 20) (f := f13_0) (fun k => (10 + k, [.i w, .i (a 9), .i (a 10), .i (a 11), .i (a 12), .i (a 0), .i (a 1), .i (a 2), .i (a 3), .n n, .l h, .i (a 5), .i (a 6), .i (a 7), .i (a 8), .i (a 9), .i (a 10), .i (a 11), .i (a 12), .i (a 13), .i (a 14), .i (a 15), .i (a 16), .i (a 17), .i (a 18), .i (a 19), .i (a 20), .i (a 21), .i (a 22), .i (a 23), .i (a 24), .i (a 25), .i (a 26), .i (a 27), .i (a 28)])) 4 (ja := 0) (jb := 3) (ra := [.i (a 0), .i (a 1), .i (a 2), .i (a 3), .n n, .l h, .i (a 5), .i (a 6), .i (a 7), .i (a 8), .i (a 9), .i (a 10), .i (a 11), .i (a 12), .i (a 13), .i (a 14), .i (a 15), .i (a 16), .i (a 17), .i (a 18), .i (a 19), .i (a 20), .i (a 21), .i (a 22), .i (a 23), .i (a 24), .i (a 25), .i (a 26), .i (a 27), .i (a 28)]) (rb := [.i (a 9), .i (a 10), .i (a 11), .i (a 12), .i (a 0), .i (a 1), .i (a 2), .i (a 3), .n n, .l h, .i (a 5), .i (a 6), .i (a 7), .i (a 8), .i (a 9), .i (a 10), .i (a 11), .i (a 12), .i (a 13), .i (a 14), .i (a 15), .i (a 16), .i (a 17), .i (a 18), .i (a 19), .i (a 20), .i (a 21), .i (a 22), .i (a 23), .i (a 24), .i (a 25), .i (a 26), .i (a 27), .i (a 28)]) (fun k hk => by show 10 + k < 20; omega) (fun k hk => ?_) ?_ (by omega)
  · unfold L13_0; exact this
  · match k, hk with
    | 0, _ => exact rq_10 a n h w
    | 1, _ => exact rq_11 a n h w
    | 2, _ => exact rq_12 a n h w
    | 3, _ => exact rq_13 a n h w
    | k + 4, hk => omega
  · show f13_0 (14, [.i w, .i (a 9), .i (a 10), .i (a 11), .i (a 12), .i (a 0), .i (a 1), .i (a 2), .i (a 3), .n n, .l h, .i (a 5), .i (a 6), .i (a 7), .i (a 8), .i (a 9), .i (a 10), .i (a 11), .i (a 12), .i (a 13), .i (a 14), .i (a 15), .i (a 16), .i (a 17), .i (a 18), .i (a 19), .i (a 20), .i (a 21), .i (a 22), .i (a 23), .i (a 24), .i (a 25), .i (a 26), .i (a 27), .i (a 28)]) = _
    simp -implicitDefEqProofs only [f13_0, f13_0_14, asI_i, asN_n, asL_l, asB_b, asX_x, asE_nil, ↓Bool.cond_decide, Bool.cond_not, cond_true, cond_false, Bool.not_true, Bool.not_false]
theorem rw_2 (a : Nat → Int) (n : Nat) (h : List Int) : f13_1 (2, [.i (a 9), .i (a 10), .i (a 11), .i (a 12), .i (a 0), .i (a 1), .i (a 2), .i (a 3), .n n, .l h, .i (a 5), .i (a 6), .i (a 7), .i (a 8), .i (a 9), .i (a 10), .i (a 11), .i (a 12), .i (a 13), .i (a 14), .i (a 15), .i (a 16), .i (a 17), .i (a 18), .i (a 19), .i (a 20), .i (a 21), .i (a 22), .i (a 23), .i (a 24), .i (a 25), .i (a 26), .i (a 27), .i (a 28)]) = some (3, [.i (a 9), .i (a 10), .i (a 11), .i (a 12), .i (a 0), .i (a 1), .i (a 2), .i (a 3), .n n, .l h, .i (a 5), .i (a 6), .i (a 7), .i (a 8), .i (a 9), .i (a 10), .i (a 11), .i (a 12), .i (a 13), .i (a 14), .i (a 15), .i (a 16), .i (a 17), .i (a 18), .i (a 19), .i (a 20), .i (a 21), .i (a 22), .i (a 23), .i (a 24), .i (a 25), .i (a 26), .i (a 27), .i (a 28)]) ∨ f13_1 (2, [.i (a 9), .i (a 10), .i (a 11), .i (a 12), .i (a 0), .i (a 1), .i (a 2), .i (a 3), .n n, .l h, .i (a 5), .i (a 6), .i (a 7), .i (a 8), .i (a 9), .i (a 10), .i (a 11), .i (a 12), .i (a 13), .i (a 14), .i (a 15), .i (a 16), .i (a 17), .i (a 18), .i (a 19), .i (a 20), .i (a 21), .i (a 22), .i (a 23), .i (a 24), .i (a 25), .i (a 26), .i (a 27), .i (a 28)]) = some (5 + 0, [.i (a 0), .i (a 1), .i (a 2), .i (a 3), .n n, .l h, .i (a 5), .i (a 6), .i (a 7), .i (a 8), .i (a 9), .i (a 10), .i (a 11), .i (a 12), .i (a 13), .i (a 14), .i (a 15), .i (a 16), .i (a 17), .i (a 18), .i (a 19), .i (a 20), .i (a 21), .i (a 22), .i (a 23), .i (a 24), .i (a 25), .i (a 26), .i (a 27), .i (a 28)]) := by
  by_cases c1 : (a 11) < 0
  · right
    simp -implicitDefEqProofs only [f13_1, f13_1_2, asI_i, asN_n, asL_l, asB_b, asX_x, asE_nil, ↓Bool.cond_decide, Bool.cond_not, cond_true, cond_false, Bool.not_true, Bool.not_false, if_pos c1]
  · by_cases c2 : 24 < (a 11)
    · right
      simp -implicitDefEqProofs only [f13_1, f13_1_2, asI_i, asN_n, asL_l, asB_b, asX_x, asE_nil, ↓Bool.cond_decide, Bool.cond_not, cond_true, cond_false, Bool.not_true, Bool.not_false, if_neg c1, if_pos c2]
    · rcases rg_2 a n h (a 11) with e | e
      · right
        simp -implicitDefEqProofs only [f13_1, f13_1_2, asI_i, asN_n, asL_l, asB_b, asX_x, asE_nil, ↓Bool.cond_decide, Bool.cond_not, cond_true, cond_false, Bool.not_true, Bool.not_false, if_neg c1, if_neg c2, e, altK_0]
      · left
        simp -implicitDefEqProofs only [f13_1, f13_1_2, asI_i, asN_n, asL_l, asB_b, asX_x, asE_nil, ↓Bool.cond_decide, Bool.cond_not, cond_true, cond_false, Bool.not_true, Bool.not_false, if_neg c1, if_neg c2, e, altK_3]
theorem rq_15 (a : Nat → Int) (n : Nat) (h : List Int) (w : Int) : f13_0 (15, [.i w, .i (a 9), .i (a 10), .i (a 11), .i (a 12), .i (a 0), .i (a 1), .i (a 2), .i (a 3), .n n, .l h, .i (a 5), .i (a 6), .i (a 7), .i (a 8), .i (a 9), .i (a 10), .i (a 11), .i (a 12), .i (a 13), .i (a 14), .i (a 15), .i (a 16), .i (a 17), .i (a 18), .i (a 19), .i (a 20), .i (a 21), .i (a 22), .i (a 23), .i (a 24), .i (a 25), .i (a 26), .i (a 27), .i (a 28)]) = some (16, [.i w, .i (a 9), .i (a 10), .i (a 11), .i (a 12), .i (a 0), .i (a 1), .i (a 2), .i (a 3), .n n, .l h, .i (a 5), .i (a 6), .i (a 7), .i (a 8), .i (a 9), .i (a 10), .i (a 11), .i (a 12), .i (a 13), .i (a 14), .i (a 15), .i (a 16), .i (a 17), .i (a 18), .i (a 19), .i (a 20), .i (a 21), .i (a 22), .i (a 23), .i (a 24), .i (a 25), .i (a 26), .i (a 27), .i (a 28)]) ∨ f13_0 (15, [.i w, .i (a 9), .i (a 10), .i (a 11), .i (a 12), .i (a 0), .i (a 1), .i (a 2), .i (a 3), .n n, .l h, .i (a 5), .i (a 6), .i (a 7), .i (a 8), .i (a 9), .i (a 10), .i (a 11), .i (a 12), .i (a 13), .i (a 14), .i (a 15), .i (a 16), .i (a 17), .i (a 18), .i (a 19), .i (a 20), .i (a 21), .i (a 22), .i (a 23), .i (a 24), .i (a 25), .i (a 26), .i (a 27), .i (a 28)]) = some (20 + 0, [.i (a 0), .i (a 1), .i (a 2), .i (a 3), .n n, .l h, .i (a 5), .i (a 6), .i (a 7), .i (a 8), .i (a 9), .i (a 10), .i (a 11), .i (a 12), .i (a 13), .i (a 14), .i (a 15), .i (a 16), .i (a 17), .i (a 18), .i (a 19), .i (a 20), .i (a 21), .i (a 22), .i (a 23), .i (a 24), .i (a 25), .i (a 26), .i (a 27), .i (a 28)]) := by
  obtain ⟨b, hb⟩ := fits_v (a 25) w
  cases b
  · right
    simp -implicitDefEqProofs only [f13_0, f13_0_15, asI_i, asN_n, asL_l, asB_b, asX_x, asE_nil, ↓Bool.cond_decide, Bool.cond_not, cond_true, cond_false, Bool.not_true, Bool.not_false, hb, altK_0, Bool.not_false, cond_true]
  · left
    simp -implicitDefEqProofs only [f13_0, f13_0_15, asI_i, asN_n, asL_l, asB_b, asX_x, asE_nil, ↓Bool.cond_decide, Bool.cond_not, cond_true, cond_false, Bool.not_true, Bool.not_false, hb, altK_0, Bool.not_true, cond_false]
theorem rq_16 (a : Nat → Int) (n : Nat) (h : List Int) (w : Int) : f13_0 (16, [.i w, .i (a 9), .i (a 10), .i (a 11), .i (a 12), .i (a 0), .i (a 1), .i (a 2), .i (a 3), .n n, .l h, .i (a 5), .i (a 6), .i (a 7), .i (a 8), .i (a 9), .i (a 10), .i (a 11), .i (a 12), .i (a 13), .i (a 14), .i (a 15), .i (a 16), .i (a 17), .i (a 18), .i (a 19), .i (a 20), .i (a 21), .i (a 22), .i (a 23), .i (a 24), .i (a 25), .i (a 26), .i (a 27), .i (a 28)]) = some (17, [.i w, .i (a 9), .i (a 10), .i (a 11), .i (a 12), .i (a 0), .i (a 1), .i (a 2), .i (a 3), .n n, .l h, .i (a 5), .i (a 6), .i (a 7), .i (a 8), .i (a 9), .i (a 10), .i (a 11), .i (a 12), .i (a 13), .i (a 14), .i (a 15), .i (a 16), .i (a 17), .i (a 18), .i (a 19), .i (a 20), .i (a 21), .i (a 22), .i (a 23), .i (a 24), .i (a 25), .i (a 26), .i (a 27), .i (a 28)]) ∨ f13_0 (16, [.i w, .i (a 9), .i (a 10), .i (a 11), .i (a 12), .i (a 0), .i (a 1), .i (a 2), .i (a 3), .n n, .l h, .i (a 5), .i (a 6), .i (a 7), .i (a 8), .i (a 9), .i (a 10), .i (a 11), .i (a 12), .i (a 13), .i (a 14), .i (a 15), .i (a 16), .i (a 17), .i (a 18), .i (a 19), .i (a 20), .i (a 21), .i (a 22), .i (a 23), .i (a 24), .i (a 25), .i (a 26), .i (a 27), .i (a 28)]) = some (20 + 0, [.i (a 0), .i (a 1), .i (a 2), .i (a 3), .n n, .l h, .i (a 5), .i (a 6), .i (a 7), .i (a 8), .i (a 9), .i (a 10), .i (a 11), .i (a 12), .i (a 13), .i (a 14), .i (a 15), .i (a 16), .i (a 17), .i (a 18), .i (a 19), .i (a 20), .i (a 21), .i (a 22), .i (a 23), .i (a 24), .i (a 25), .i (a 26), .i (a 27), .i (a 28)]) := by
  obtain ⟨b, hb⟩ := fits_v (a 26) w
  cases b
  · right
    simp -implicitDefEqProofs only [f13_0, f13_0_16, asI_i, asN_n, asL_l, asB_b, asX_x, asE_nil, ↓Bool.cond_decide, Bool.cond_not, cond_true, cond_false, Bool.not_true, Bool.not_false, hb, altK_0, Bool.not_false, cond_true]
  · left
    simp -implicitDefEqProofs only [f13_0, f13_0_16, asI_i, asN_n, asL_l, asB_b, asX_x, asE_nil, ↓Bool.cond_decide, Bool.cond_not, cond_true, cond_false, Bool.not_true, Bool.not_false, hb, altK_0, Bool.not_true, cond_false]
theorem rq_17 (a : Nat → Int) (n : Nat) (h : List Int) (w : Int) : f13_0 (17, [.i w, .i (a 9), .i (a 10), .i (a 11), .i (a 12), .i (a 0), .i (a 1), .i (a 2), .i (a 3), .n n, .l h, .i (a 5), .i (a 6), .i (a 7), .i (a 8), .i (a 9), .i (a 10), .i (a 11), .i (a 12), .i (a 13), .i (a 14), .i (a 15), .i (a 16), .i (a 17), .i (a 18), .i (a 19), .i (a 20), .i (a 21), .i (a 22), .i (a 23), .i (a 24), .i (a 25), .i (a 26), .i (a 27), .i (a 28)]) = some (18, [.i w, .i (a 9), .i (a 10), .i (a 11), .i (a 12), .i (a 0), .i (a 1), .i (a 2), .i (a 3), .n n, .l h, .i (a 5), .i (a 6), .i (a 7), .i (a 8), .i (a 9), .i (a 10), .i (a 11), .i (a 12), .i (a 13), .i (a 14), .i (a 15), .i (a 16), .i (a 17), .i (a 18), .i (a 19), .i (a 20), .i (a 21), .i (a 22), .i (a 23), .i (a 24), .i (a 25), .i (a 26), .i (a 27), .i (a 28)]) ∨ f13_0 (17, [.i w, .i (a 9), .i (a 10), .i (a 11), .i (a 12), .i (a 0), .i (a 1), .i (a 2), .i (a 3), .n n, .l h, .i (a 5), .i (a 6), .i (a 7), .i (a 8), .i (a 9), .i (a 10), .i (a 11), .i (a 12), .i (a 13), .i (a 14), .i (a 15), .i (a 16), .i (a 17), .i (a 18), .i (a 19), .i (a 20), .i (a 21), .i (a 22), .i (a 23), .i (a 24), .i (a 25), .i (a 26), .i (a 27), .i (a 28)]) = some (20 + 0, [.i (a 0), .i (a 1), .i (a 2), .i (a 3), .n n, .l h, .i (a 5), .i (a 6), .i (a 7), .i (a 8), .i (a 9), .i (a 10), .i (a 11), .i (a 12), .i (a 13), .i (a 14), .i (a 15), .i (a 16), .i (a 17), .i (a 18), .i (a 19), .i (a 20), .i (a 21), .i (a 22), .i (a 23), .i (a 24), .i (a 25), .i (a 26), .i (a 27), .i (a 28)]) := by
  obtain ⟨b, hb⟩ := fits_v (a 27) w
  cases b
  · right
    simp -implicitDefEqProofs only [f13_0, f13_0_17, asI_i, asN_n, asL_l, asB_b, asX_x, asE_nil, ↓Bool.cond_decide, Bool.cond_not, cond_true, cond_false, Bool.not_true, Bool.not_false, hb, altK_0, Bool.not_false, cond_true]
  · left
    simp -implicitDefEqProofs only [f13_0, f13_0_17, asI_i, asN_n, asL_l, asB_b, asX_x, asE_nil, ↓Bool.cond_decide, Bool.cond_not, cond_true, cond_false, Bool.not_true, Bool.not_false, hb, altK_0, Bool.not_true, cond_false]
theorem rq_18 (a : Nat → Int) (n : Nat) (h : List Int) (w : Int) : f13_0 (18, [.i w, .i (a 9), .i (a 10), .i (a 11), .i (a 12), .i (a 0), .i (a 1), .i (a 2), .i (a 3), .n n, .l h, .i (a 5), .i (a 6), .i (a 7), .i (a 8), .i (a 9), .i (a 10), .i (a 11), .i (a 12), .i (a 13), .i (a 14), .i (a 15), .i (a 16), .i (a 17), .i (a 18), .i (a 19), .i (a 20), .i (a 21), .i (a 22), .i (a 23), .i (a 24), .i (a 25), .i (a 26), .i (a 27), .i (a 28)]) = some (19, [.i w, .i (a 9), .i (a 10), .i (a 11), .i (a 12), .i (a 0), .i (a 1), .i (a 2), .i (a 3), .n n, .l h, .i (a 5), .i (a 6), .i (a 7), .i (a 8), .i (a 9), .i (a 10), .i (a 11), .i (a 12), .i (a 13), .i (a 14), .i (a 15), .i (a 16), .i (a 17), .i (a 18), .i (a 19), .i (a 20), .i (a 21), .i (a 22), .i (a 23), .i (a 24), .i (a 25), .i (a 26), .i (a 27), .i (a 28)]) ∨ f13_0 (18, [.i w, .i (a 9), .i (a 10), .i (a 11), .i (a 12), .i (a 0), .i (a 1), .i (a 2), .i (a 3), .n n, .l h, .i (a 5), .i (a 6), .i (a 7), .i (a 8), .i (a 9), .i (a 10), .i (a 11), .i (a 12), .i (a 13), .i (a 14), .i (a 15), .i (a 16), .i (a 17), .i (a 18), .i (a 19), .i (a 20), .i (a 21), .i (a 22), .i (a 23), .i (a 24), .i (a 25), .i (a 26), .i (a 27), .i (a 28)]) = some (20 + 0, [.i (a 0), .i (a 1), .i (a 2), .i (a 3), .n n, .l h, .i (a 5), .i (a 6), .i (a 7), .i (a 8), .i (a 9), .i (a 10), .i (a 11), .i (a 12), .i (a 13), .i (a 14), .i (a 15), .i (a 16), .i (a 17), .i (a 18), .i (a 19), .i (a 20), .i (a 21), .i (a 22), .i (a 23), .i (a 24), .i (a 25), .i (a 26), .i (a 27), .i (a 28)]) := by
  obtain ⟨b, hb⟩ := fits_v (a 28) w
  cases b
  · right
    simp -implicitDefEqProofs only [f13_0, f13_0_18, asI_i, asN_n, asL_l, asB_b, asX_x, asE_nil, ↓Bool.cond_decide, Bool.cond_not, cond_true, cond_false, Bool.not_true, Bool.not_false, hb, altK_0, Bool.not_false, cond_true]
  · left
    simp -implicitDefEqProofs only [f13_0, f13_0_18, asI_i, asN_n, asL_l, asB_b, asX_x, asE_nil, ↓Bool.cond_decide, Bool.cond_not, cond_true, cond_false, Bool.not_true, Bool.not_false, hb, altK_0, Bool.not_true, cond_false]
theorem rg_3 (a : Nat → Int) (n : Nat) (h : List Int) (w : Int) : L13_0 (15, [.i w, .i (a 9), .i (a 10), .i (a 11), .i (a 12), .i (a 0), .i (a 1), .i (a 2), .i (a 3), .n n, .l h, .i (a 5), .i (a 6), .i (a 7), .i (a 8), .i (a 9), .i (a 10), .i (a 11), .i (a 12), .i (a 13), .i (a 14), .i (a 15), .i (a 16), .i (a 17), .i (a 18), .i (a 19), .i (a 20), .i (a 21), .i (a 22), .i (a 23), .i (a 24), .i (a 25), .i (a 26), .i (a 27), .i (a 28)]) = some (0, [.i (a 0), .i (a 1), .i (a 2), .i (a 3), .n n, .l h, .i (a 5), .i (a 6), .i (a 7), .i (a 8), .i (a 9), .i (a 10), .i (a 11), .i (a 12), .i (a 13), .i (a 14), .i (a 15), .i (a 16), .i (a 17), .i (a 18), .i (a 19), .i (a 20), .i (a 21), .i (a 22), .i (a 23), .i (a 24), .i (a 25), .i (a 26), .i (a 27), .i (a 28)]) ∨ L13_0 (15, [.i w, .i (a 9), .i (a 10), .i (a 11), .i (a 12), .i (a 0), .i (a 1), .i (a 2), .i (a 3), .n n, .l h, .i (a 5), .i (a 6), .i (a 7), .i (a 8), .i (a 9), .i (a 10), .i (a 11), .i (a 12), .i (a 13), .i (a 14), .i (a 15), .i (a 16), .i (a 17), .i (a 18), .i (a 19), .i (a 20), .i (a 21), .i (a 22), .i (a 23), .i (a 24), .i (a 25), .i (a 26), .i (a 27), .i (a 28)]) = some (4, [.i (a 9), .i (a 10), .i (a 11), .i (a 12), .i (a 0), .i (a 1), .i (a 2), .i (a 3), .n n, .l h, .i (a 5), .i (a 6), .i (a 7), .i (a 8), .i (a 9), .i (a 10), .i (a 11), .i (a 12), .i (a 13), .i (a 14), .i (a 15), .i (a 16), .i (a 17), .i (a 18), .i (a 19), .i (a 20), .i (a 21), .i (a 22), .i (a 23), .i (a 24), .i (a 25), .i (a 26), .i (a 27), .i (a 28)]) := by
  have := loop_chain (m := 20) (f := f13_0) (fun k => (15 + k, [.i w, .i (a 9), .i (a 10), .i (a 11), .i (a 12), .i (a 0), .i (a 1), .i (a 2), .i (a 3), .n n, .l h, .i (a 5), .i (a 6), .i (a 7), .i (a 8), .i (a 9), .i (a 10), .i (a 11), .i (a 12), .i (a 13), .i (a 14), .i (a 15), .i (a 16), .i (a 17), .i (a 18), .i (a 19), .i (a 20), .i (a 21), .i (a 22), .i (a 23), .i (a 24), .i (a 25), .i (a 26), .i (a 27), .i (a 28)])) 4 (ja := 0) (jb := 4) (ra := [.i (a 0), .i (a 1), .i (a 2), .i (a 3), .n n, .l h, .i (a 5), .i (a 6), .i (a 7), .i (a 8), .i (a 9), .i (a 10), .i (a 11), .i (a 12), .i (a 13), .i (a 14), .i (a 15), .i (a 16), .i (a 17), .i (a 18), .i (a 19), .i (a 20), .i (a 21), .i (a 22), .i (a 23), .i (a 24), .i (a 25), .i (a 26), .i (a 27), .i (a 28)]) (rb := [.i (a 9), .i (a 10), .i (a 11), .i (a 12), .i (a 0), .i (a 1), .i (a 2), .i (a 3), .n n, .l h, .i (a 5), .i (a 6), .i (a 7), .i (a 8), .i (a 9), .i (a 10), .i (a 11), .i (a 12), .i (a 13), .i (a 14), .i (a 15), .i (a 16), .i (a 17), .i (a 18), .i (a 19), .i (a 20), .i (a 21), .i (a 22), .i (a 23), .i (a 24), .i (a 25), .i (a 26), .i (a 27), .i (a 28)]) (fun k hk => by show 15 + k < 20; omega) (fun k hk => ?_) ?_ (by omega)
  · unfold L13_0; exact this
  · match k, hk with
    | 0, _ => exact rq_15 a n h w
    | 1, _ => exact rq_16 a n h w
    | 2, _ => exact rq_17 a n h w
    | 3, _ => exact rq_18 a n h w
    | k + 4, hk => omega
  · show f13_0 (19, [.i w, .i (a 9), .i (a 10), .i (a 11), .i (a 12), .i (a 0), .i (a 1), .i (a 2), .i (a 3), .n n, .l h, .i (a 5), .i (a 6), .i (a 7), .i (a 8), .i (a 9), .i (a 10), .i (a 11), .i (a 12), .i (a 13), .i (a 14), .i (a 15), .i (a 16), .i (a 17), .i (a 18), .i (a 19), .i (a 20), .i (a 21), .i (a 22), .i (a 23), .i (a 24), .i (a 25), .i (a 26), .i (a 27), .i (a 28)]) = _
    simp -implicitDefEqProofs only [f13_0, f13_0_19, asI_i, asN_n, asL_l, asB_b, asX_x, asE_nil, ↓Bool.cond_decide, Bool.cond_not, cond_true, cond_false, Bool.not_true, Bool.not_false]
theorem rw_3 (a : Nat → Int) (n : Nat) (h : List Int) : f13_1 (3, [.i (a 9), .i (a 10), .i (a 11), .i (a 12), .i (a 0), .i (a 1), .i (a 2), .i (a 3), .n n, .l h, .i (a 5), .i (a 6), .i (a 7), .i (a 8), .i (a 9), .i (a 10), .i (a 11), .i (a 12), .i (a 13), .i (a 14), .i (a 15), .i (a 16), .i (a 17), .i (a 18), .i (a 19), .i (a 20), .i (a 21), .i (a 22), .i (a 23), .i (a 24), .i (a 25), .i (a 26), .i (a 27), .i (a 28)]) = some (4, [.i (a 9), .i (a 10), .i (a 11), .i (a 12), .i (a 0), .i (a 1), .i (a 2), .i (a 3), .n n, .l h, .i (a 5), .i (a 6), .i (a 7), .i (a 8), .i (a 9), .i (a 10), .i (a 11), .i (a 12), .i (a 13), .i (a 14), .i (a 15), .i (a 16), .i (a 17), .i (a 18), .i (a 19), .i (a 20), .i (a 21), .i (a 22), .i (a 23), .i (a 24), .i (a 25), .i (a 26), .i (a 27), .i (a 28)]) ∨ f13_1 (3, [.i (a 9), .i (a 10), .i (a 11), .i (a 12), .i (a 0), .i (a 1), .i (a 2), .i (a 3), .n n, .l h, .i (a 5), .i (a 6), .i (a 7), .i (a 8), .i (a 9), .i (a 10), .i (a 11), .i (a 12), .i (a 13), .i (a 14), .i (a 15), .i (a 16), .i (a 17), .i (a 18), .i (a 19), .i (a 20), .i (a 21), .i (a 22), .i (a 23), .i (a 24), .i (a 25), .i (a 26), .i (a 27), .i (a 28)]) = some (5 + 0, [.i (a 0), .i (a 1), .i (a 2), .i (a 3), .n n, .l h, .i (a 5), .i (a 6), .i (a 7), .i (a 8), .i (a 9), .i (a 10), .i (a 11), .i (a 12), .i (a 13), .i (a 14), .i (a 15), .i (a 16), .i (a 17), .i (a 18), .i (a 19), .i (a 20), .i (a 21), .i (a 22), .i (a 23), .i (a 24), .i (a 25), .i (a 26), .i (a 27), .i (a 28)]) := by
  by_cases c1 : (a 12) < 0
  · right
    simp -implicitDefEqProofs only [f13_1, f13_1_3, asI_i, asN_n, asL_l, asB_b, asX_x, asE_nil, ↓Bool.cond_decide, Bool.cond_not, cond_true, cond_false, Bool.not_true, Bool.not_false, if_pos c1]
  · by_cases c2 : 24 < (a 12)
    · right
      simp -implicitDefEqProofs only [f13_1, f13_1_3, asI_i, asN_n, asL_l, asB_b, asX_x, asE_nil, ↓Bool.cond_decide, Bool.cond_not, cond_true, cond_false, Bool.not_true, Bool.not_false, if_neg c1, if_pos c2]
    · rcases rg_3 a n h (a 12) with e | e
      · right
        simp -implicitDefEqProofs only [f13_1, f13_1_3, asI_i, asN_n, asL_l, asB_b, asX_x, asE_nil, ↓Bool.cond_decide, Bool.cond_not, cond_true, cond_false, Bool.not_true, Bool.not_false, if_neg c1, if_neg c2, e, altK_0]
      · left
        simp -implicitDefEqProofs only [f13_1, f13_1_3, asI_i, asN_n, asL_l, asB_b, asX_x, asE_nil, ↓Bool.cond_decide, Bool.cond_not, cond_true, cond_false, Bool.not_true, Bool.not_false, if_neg c1, if_neg c2, e, altK_4]
theorem rl_v (a : Nat → Int) (n : Nat) (h : List Int) : L13_1 (0, [.i (a 9), .i (a 10), .i (a 11), .i (a 12), .i (a 0), .i (a 1), .i (a 2), .i (a 3), .n n, .l h, .i (a 5), .i (a 6), .i (a 7), .i (a 8), .i (a 9), .i (a 10), .i (a 11), .i (a 12), .i (a 13), .i (a 14), .i (a 15), .i (a 16), .i (a 17), .i (a 18), .i (a 19), .i (a 20), .i (a 21), .i (a 22), .i (a 23), .i (a 24), .i (a 25), .i (a 26), .i (a 27), .i (a 28)]) = some (0, [.i (a 0), .i (a 1), .i (a 2), .i (a 3), .n n, .l h, .i (a 5), .i (a 6), .i (a 7), .i (a 8), .i (a 9), .i (a 10), .i (a 11), .i (a 12), .i (a 13), .i (a 14), .i (a 15), .i (a 16), .i (a 17), .i (a 18), .i (a 19), .i (a 20), .i (a 21), .i (a 22), .i (a 23), .i (a 24), .i (a 25), .i (a 26), .i (a 27), .i (a 28)]) ∨ L13_1 (0, [.i (a 9), .i (a 10), .i (a 11), .i (a 12), .i (a 0), .i (a 1), .i (a 2), .i (a 3), .n n, .l h, .i (a 5), .i (a 6), .i (a 7), .i (a 8), .i (a 9), .i (a 10), .i (a 11), .i (a 12), .i (a 13), .i (a 14), .i (a 15), .i (a 16), .i (a 17), .i (a 18), .i (a 19), .i (a 20), .i (a 21), .i (a 22), .i (a 23), .i (a 24), .i (a 25), .i (a 26), .i (a 27), .i (a 28)]) = some (1, [.i (a 0), .i (a 1), .i (a 2), .i (a 3), .n n, .l h, .i (a 5), .i (a 6), .i (a 7), .i (a 8), .i (a 9), .i (a 10), .i (a 11), .i (a 12), .i (a 13), .i (a 14), .i (a 15), .i (a 16), .i (a 17), .i (a 18), .i (a 19), .i (a 20), .i (a 21), .i (a 22), .i (a 23), .i (a 24), .i (a 25), .i (a 26), .i (a 27), .i (a 28)]) := by
  have := loop_chain (m := 5) (f := f13_1) (fun k => (k, [.i (a 9), .i (a 10), .i (a 11), .i (a 12), .i (a 0), .i (a 1), .i (a 2), .i (a 3), .n n, .l h, .i (a 5), .i (a 6), .i (a 7), .i (a 8), .i (a 9), .i (a 10), .i (a 11), .i (a 12), .i (a 13), .i (a 14), .i (a 15), .i (a 16), .i (a 17), .i (a 18), .i (a 19), .i (a 20), .i (a 21), .i (a 22), .i (a 23), .i (a 24), .i (a 25), .i (a 26), .i (a 27), .i (a 28)])) 4 (ja := 0) (jb := 1) (ra := [.i (a 0), .i (a 1), .i (a 2), .i (a 3), .n n, .l h, .i (a 5), .i (a 6), .i (a 7), .i (a 8), .i (a 9), .i (a 10), .i (a 11), .i (a 12), .i (a 13), .i (a 14), .i (a 15), .i (a 16), .i (a 17), .i (a 18), .i (a 19), .i (a 20), .i (a 21), .i (a 22), .i (a 23), .i (a 24), .i (a 25), .i (a 26), .i (a 27), .i (a 28)]) (rb := [.i (a 0), .i (a 1), .i (a 2), .i (a 3), .n n, .l h, .i (a 5), .i (a 6), .i (a 7), .i (a 8), .i (a 9), .i (a 10), .i (a 11), .i (a 12), .i (a 13), .i (a 14), .i (a 15), .i (a 16), .i (a 17), .i (a 18), .i (a 19), .i (a 20), .i (a 21), .i (a 22), .i (a 23), .i (a 24), .i (a 25), .i (a 26), .i (a 27), .i (a 28)]) (fun k hk => by show k < 5; omega) (fun k hk => ?_) ?_ (by omega)
  · unfold L13_1; exact this
  · match k, hk with
    | 0, _ => exact rw_0 a n h
    | 1, _ => exact rw_1 a n h
    | 2, _ => exact rw_2 a n h
    | 3, _ => exact rw_3 a n h
    | k + 4, hk => omega
  · show f13_1 (4, [.i (a 9), .i (a 10), .i (a 11), .i (a 12), .i (a 0), .i (a 1), .i (a 2), .i (a 3), .n n, .l h, .i (a 5), .i (a 6), .i (a 7), .i (a 8), .i (a 9), .i (a 10), .i (a 11), .i (a 12), .i (a 13), .i (a 14), .i (a 15), .i (a 16), .i (a 17), .i (a 18), .i (a 19), .i (a 20), .i (a 21), .i (a 22), .i (a 23), .i (a 24), .i (a 25), .i (a 26), .i (a 27), .i (a 28)]) = _
    simp -implicitDefEqProofs only [f13_1, f13_1_4, asI_i, asN_n, asL_l, asB_b, asX_x, asE_nil, ↓Bool.cond_decide, Bool.cond_not, cond_true, cond_false, Bool.not_true, Bool.not_false]
theorem right_v (a : Nat → Int) (n : Nat) (h : List Int) (hl : n * 2 ≤ h.length) (hn : n ≤ 5) : ∃ b, g13 (0, [.i (a 0), .i (a 1), .i (a 2), .i (a 3), .n n, .l h, .i (a 5), .i (a 6), .i (a 7), .i (a 8), .i (a 9), .i (a 10), .i (a 11), .i (a 12), .i (a 13), .i (a 14), .i (a 15), .i (a 16), .i (a 17), .i (a 18), .i (a 19), .i (a 20), .i (a 21), .i (a 22), .i (a 23), .i (a 24), .i (a 25), .i (a 26), .i (a 27), .i (a 28)]) = some (0, [.b b]) := by
  obtain ⟨b1, h1⟩ := gains_v [a 0, a 1, a 2, a 3] rfl
  obtain ⟨b2, h2⟩ := tones_v n h hl hn
  obtain ⟨b3, h3⟩ := scales_v [a 5, a 6, a 7, a 8] rfl
  cases b1
  · exact ⟨false, by simp -implicitDefEqProofs only [g13, g13_0, asI_i, asN_n, asL_l, asB_b, asX_x, asE_nil, ↓Bool.cond_decide, Bool.cond_not, cond_true, cond_false, Bool.not_true, Bool.not_false, h1, altK_0, Bool.not_false, cond_true]⟩
  cases b2
  · exact ⟨false, by simp -implicitDefEqProofs only [g13, g13_0, asI_i, asN_n, asL_l, asB_b, asX_x, asE_nil, ↓Bool.cond_decide, Bool.cond_not, cond_true, cond_false, Bool.not_true, Bool.not_false, h1, h2, altK_0, Bool.not_true, cond_false, Bool.not_false, cond_true]⟩
  cases b3
  · exact ⟨false, by simp -implicitDefEqProofs only [g13, g13_0, asI_i, asN_n, asL_l, asB_b, asX_x, asE_nil, ↓Bool.cond_decide, Bool.cond_not, cond_true, cond_false, Bool.not_true, Bool.not_false, h1, h2, h3, altK_0, Bool.not_true, cond_false, Bool.not_false, cond_true]⟩
  rcases rl_v a n h with e | e
  · exact ⟨false, by simp -implicitDefEqProofs only [g13, g13_0, asI_i, asN_n, asL_l, asB_b, asX_x, asE_nil, ↓Bool.cond_decide, Bool.cond_not, cond_true, cond_false, Bool.not_true, Bool.not_false, h1, h2, h3, e, altK_0, Bool.not_true, cond_false]⟩
  · exact ⟨true, by simp -implicitDefEqProofs only [g13, g13_0, asI_i, asN_n, asL_l, asB_b, asX_x, asE_nil, ↓Bool.cond_decide, Bool.cond_not, cond_true, cond_false, Bool.not_true, Bool.not_false, h1, h2, h3, e, altK_0, altK_1, Bool.not_true, cond_false]⟩
def toG (Y h : List Int) : Nat → List Int
  | 0 => Y
  | k + 1 => if 0 ≤ h.getD (k * 2) 0 ∧ h.getD (k * 2) 0 < 16 then (toG Y h k).set (h.getD (k * 2) 0).toNat (IntKind.i64.wrap ((toG Y h k).getD (h.getD (k * 2) 0).toNat 0 + h.getD (k * 2 + 1) 0)) else toG Y h k
theorem toG_len (Y h : List Int) : ∀ k, (toG Y h k).length = Y.length
  | 0 => rfl
  | k + 1 => by
    unfold toG
    split
    · rw [List.length_set, toG_len Y h k]
    · exact toG_len Y h k
theorem clamp31_in (x : Int) : -2147483648 ≤ clamp31 x ∧ clamp31 x ≤ 2147483648 := by
  unfold clamp31
  repeat' split
  all_goals omega
theorem clK_in (Y : List Int) : ∀ k j, j < k → j < Y.length → -2147483648 ≤ (clK Y k).getD j 0 ∧ (clK Y k).getD j 0 ≤ 2147483648
  | 0, j, h, _ => absurd h (Nat.not_lt_zero j)
  | k + 1, j, h, hj => by
    have hl := clK_len Y k
    by_cases e : k = j
    · subst e
      have : (clK Y (k + 1)).getD k 0 = clamp31 (Y.getD k 0) := by
        show ((clK Y k).set k (clamp31 (Y.getD k 0))).getD k 0 = _
        rw [List.getD_eq_getElem?_getD, List.getElem?_set_self (by omega)]; rfl
      rw [this]
      exact clamp31_in _
    · have : (clK Y (k + 1)).getD j 0 = (clK Y k).getD j 0 := by
        show ((clK Y k).set k (clamp31 (Y.getD k 0))).getD j 0 = _
        rw [List.getD_eq_getElem?_getD, List.getElem?_set_ne e, ← List.getD_eq_getElem?_getD]
      rw [this]
      exact clK_in Y k j (by omega) hj
def sG (a : Nat → Int) (n : Nat) (h Z Y : List Int) : Nat → Nat × List Leaf
  | 0 => (0, [.n n, .l h, .i (n : Int), .i 0, .i (a 0), .i (a 1), .i (a 2), .i (a 3), .n n, .l h, .i (a 5), .i (a 6), .i (a 7), .i (a 8), .i (a 9), .i (a 10), .i (a 11), .i (a 12), .i (a 13), .i (a 14), .i (a 15), .i (a 16), .i (a 17), .i (a 18), .i (a 19), .i (a 20), .i (a 21), .i (a 22), .i (a 23), .i (a 24), .i (a 25), .i (a 26), .i (a 27), .i (a 28), .l Z, .l Y])
  | k + 1 => (1, [.n n, .l h, .i (n : Int), .i ((k + 1 : Nat) : Int), .l Z, .l (toG Y h (k + 1))])
theorem sg_0 (a : Nat → Int) (n : Nat) (h Z Y : List Int) (hk : 0 < n) (hl : n * 2 ≤ h.length) (hn : n ≤ 5) (hY : Y.length = 16) : f14_0 (0, [.n n, .l h, .i (n : Int), .i 0, .i (a 0), .i (a 1), .i (a 2), .i (a 3), .n n, .l h, .i (a 5), .i (a 6), .i (a 7), .i (a 8), .i (a 9), .i (a 10), .i (a 11), .i (a 12), .i (a 13), .i (a 14), .i (a 15), .i (a 16), .i (a 17), .i (a 18), .i (a 19), .i (a 20), .i (a 21), .i (a 22), .i (a 23), .i (a 24), .i (a 25), .i (a 26), .i (a 27), .i (a 28), .l Z, .l Y]) = some (1, [.n n, .l h, .i (n : Int), .i (((0 + 1) : Nat) : Int), .l Z, .l (toG Y h (0 + 1))]) := by
  have c0 := cT_0 (h := h) (k := 0) (by omega)
  have c1 := cT_1 (h := h) (k := 0) (by omega)
  have cl := cT_len (h := h) (k := 0) (by omega)
  have w2 : IntKind.i64.wrap ((0 : Int) + 1) = (((0 + 1) : Nat) : Int) := wrap_nat (n := (0 + 1)) (by omega)
  have hlen := toG_len Y h 0
  have e : toG Y h (0 + 1) = if 0 ≤ h.getD (0 * 2) 0 ∧ h.getD (0 * 2) 0 < 16 then (toG Y h 0).set (h.getD (0 * 2) 0).toNat (IntKind.i64.wrap ((toG Y h 0).getD (h.getD (0 * 2) 0).toNat 0 + h.getD (0 * 2 + 1) 0)) else toG Y h 0 := rfl
  have hx : h.getD (0 * 2) 0 < 16 → (toG Y h 0)[(h.getD (0 * 2) 0).toNat]? = some ((toG Y h 0).getD (h.getD (0 * 2) 0).toNat 0) := fun _ => get_some (by omega)
  have e0 : toG Y h 0 = Y := rfl
  rw [e0] at hx hlen e
  have t0 : Int.toNat 0 = 0 := rfl
  rw [e]
  generalize hW : Y = W at *
  generalize h.getD (0 * 2) 0 = v at *
  generalize h.getD (0 * 2 + 1) 0 = u at *
  by_cases q0 : 0 ≤ v
  · by_cases q1 : v < 16
    · have hx := hx q1
      generalize W.getD v.toNat 0 = x at *
      rw [if_pos ⟨q0, q1⟩]
      simp -implicitDefEqProofs only [f14_0, f14_0_0, asI_i, asN_n, asL_l, asB_b, asX_x, asE_nil, ↓Bool.cond_decide, Bool.cond_not, cond_true, cond_false, Bool.not_true, Bool.not_false, if_pos (show (0 : Int) < (n : Int) by omega), if_pos (show (0 : Int) ≤ (0 : Int) ∧ (0 : Int) < (n : Int) by omega), t0, if_pos (show 0 * 2 + 2 ≤ h.length by omega), cl, if_true, Nat.zero_add, Nat.le_refl, show List.drop 2 ([0, 0] : List Int) = [] from rfl, List.append_nil, c0, c1, optK_some, w2, if_pos q0, if_pos q1, if_pos (show 0 ≤ v ∧ v < 16 from ⟨q0, q1⟩), hx, if_pos (show v.toNat < W.length by omega)]
    · rw [if_neg (fun z => q1 z.2)]
      simp -implicitDefEqProofs only [f14_0, f14_0_0, asI_i, asN_n, asL_l, asB_b, asX_x, asE_nil, ↓Bool.cond_decide, Bool.cond_not, cond_true, cond_false, Bool.not_true, Bool.not_false, if_pos (show (0 : Int) < (n : Int) by omega), if_pos (show (0 : Int) ≤ (0 : Int) ∧ (0 : Int) < (n : Int) by omega), t0, if_pos (show 0 * 2 + 2 ≤ h.length by omega), cl, if_true, Nat.zero_add, Nat.le_refl, show List.drop 2 ([0, 0] : List Int) = [] from rfl, List.append_nil, c0, c1, optK_some, w2, if_pos q0, if_neg q1]
  · rw [if_neg (fun z => q0 z.1)]
    simp -implicitDefEqProofs only [f14_0, f14_0_0, asI_i, asN_n, asL_l, asB_b, asX_x, asE_nil, ↓Bool.cond_decide, Bool.cond_not, cond_true, cond_false, Bool.not_true, Bool.not_false, if_pos (show (0 : Int) < (n : Int) by omega), if_pos (show (0 : Int) ≤ (0 : Int) ∧ (0 : Int) < (n : Int) by omega), t0, if_pos (show 0 * 2 + 2 ≤ h.length by omega), cl, if_true, Nat.zero_add, Nat.le_refl, show List.drop 2 ([0, 0] : List Int) = [] from rfl, List.append_nil, c0, c1, optK_some, w2, if_neg q0]
theorem sg_1 (a : Nat → Int) (n : Nat) (h Z Y : List Int) (k : Nat) (hk : (k + 1) < n) (hl : n * 2 ≤ h.length) (hn : n ≤ 5) (hY : Y.length = 16) : f14_0 (1, [.n n, .l h, .i (n : Int), .i ((k + 1 : Nat) : Int), .l Z, .l (toG Y h (k + 1))]) = some (1, [.n n, .l h, .i (n : Int), .i (((k + 1 + 1) : Nat) : Int), .l Z, .l (toG Y h (k + 1 + 1))]) := by
  have c0 := cT_0 (h := h) (k := (k + 1)) (by omega)
  have c1 := cT_1 (h := h) (k := (k + 1)) (by omega)
  have cl := cT_len (h := h) (k := (k + 1)) (by omega)
  have w2 : IntKind.i64.wrap (((k + 1 : Nat) : Int) + 1) = (((k + 1 + 1) : Nat) : Int) := wrap_nat (n := (k + 1 + 1)) (by omega)
  have hlen := toG_len Y h (k + 1)
  have e : toG Y h (k + 1 + 1) = if 0 ≤ h.getD ((k + 1) * 2) 0 ∧ h.getD ((k + 1) * 2) 0 < 16 then (toG Y h (k + 1)).set (h.getD ((k + 1) * 2) 0).toNat (IntKind.i64.wrap ((toG Y h (k + 1)).getD (h.getD ((k + 1) * 2) 0).toNat 0 + h.getD ((k + 1) * 2 + 1) 0)) else toG Y h (k + 1) := rfl
  have hx : h.getD ((k + 1) * 2) 0 < 16 → (toG Y h (k + 1))[(h.getD ((k + 1) * 2) 0).toNat]? = some ((toG Y h (k + 1)).getD (h.getD ((k + 1) * 2) 0).toNat 0) := fun _ => get_some (by omega)
  rw [e]
  generalize toG Y h (k + 1) = W at *
  generalize h.getD ((k + 1) * 2) 0 = v at *
  generalize h.getD ((k + 1) * 2 + 1) 0 = u at *
  by_cases q0 : 0 ≤ v
  · by_cases q1 : v < 16
    · have hx := hx q1
      generalize W.getD v.toNat 0 = x at *
      rw [if_pos ⟨q0, q1⟩]
      simp -implicitDefEqProofs only [f14_0, f14_0_1, asI_i, asN_n, asL_l, asB_b, asX_x, asE_nil, ↓Bool.cond_decide, Bool.cond_not, cond_true, cond_false, Bool.not_true, Bool.not_false, if_pos (show ((k + 1 : Nat) : Int) < (n : Int) by omega), if_pos (show (0 : Int) ≤ ((k + 1 : Nat) : Int) ∧ ((k + 1 : Nat) : Int) < (n : Int) by omega), Int.toNat_natCast, if_pos (show (k + 1) * 2 + 2 ≤ h.length by omega), cl, if_true, Nat.zero_add, Nat.le_refl, show List.drop 2 ([0, 0] : List Int) = [] from rfl, List.append_nil, c0, c1, optK_some, w2, if_pos q0, if_pos q1, if_pos (show 0 ≤ v ∧ v < 16 from ⟨q0, q1⟩), hx, if_pos (show v.toNat < W.length by omega)]
    · rw [if_neg (fun z => q1 z.2)]
      simp -implicitDefEqProofs only [f14_0, f14_0_1, asI_i, asN_n, asL_l, asB_b, asX_x, asE_nil, ↓Bool.cond_decide, Bool.cond_not, cond_true, cond_false, Bool.not_true, Bool.not_false, if_pos (show ((k + 1 : Nat) : Int) < (n : Int) by omega), if_pos (show (0 : Int) ≤ ((k + 1 : Nat) : Int) ∧ ((k + 1 : Nat) : Int) < (n : Int) by omega), Int.toNat_natCast, if_pos (show (k + 1) * 2 + 2 ≤ h.length by omega), cl, if_true, Nat.zero_add, Nat.le_refl, show List.drop 2 ([0, 0] : List Int) = [] from rfl, List.append_nil, c0, c1, optK_some, w2, if_pos q0, if_neg q1]
  · rw [if_neg (fun z => q0 z.1)]
    simp -implicitDefEqProofs only [f14_0, f14_0_1, asI_i, asN_n, asL_l, asB_b, asX_x, asE_nil, ↓Bool.cond_decide, Bool.cond_not, cond_true, cond_false, Bool.not_true, Bool.not_false, if_pos (show ((k + 1 : Nat) : Int) < (n : Int) by omega), if_pos (show (0 : Int) ≤ ((k + 1 : Nat) : Int) ∧ ((k + 1 : Nat) : Int) < (n : Int) by omega), Int.toNat_natCast, if_pos (show (k + 1) * 2 + 2 ≤ h.length by omega), cl, if_true, Nat.zero_add, Nat.le_refl, show List.drop 2 ([0, 0] : List Int) = [] from rfl, List.append_nil, c0, c1, optK_some, w2, if_neg q0]
theorem sl_0 (a : Nat → Int) (h Z Y : List Int) : L14_0 (0, [.n 0, .l h, .i ((0 : Nat) : Int), .i 0, .i (a 0), .i (a 1), .i (a 2), .i (a 3), .n 0, .l h, .i (a 5), .i (a 6), .i (a 7), .i (a 8), .i (a 9), .i (a 10), .i (a 11), .i (a 12), .i (a 13), .i (a 14), .i (a 15), .i (a 16), .i (a 17), .i (a 18), .i (a 19), .i (a 20), .i (a 21), .i (a 22), .i (a 23), .i (a 24), .i (a 25), .i (a 26), .i (a 27), .i (a 28), .l Z, .l Y]) = some (0, [.i (a 0), .i (a 1), .i (a 2), .i (a 3), .n 0, .l h, .i (a 5), .i (a 6), .i (a 7), .i (a 8), .i (a 9), .i (a 10), .i (a 11), .i (a 12), .i (a 13), .i (a 14), .i (a 15), .i (a 16), .i (a 17), .i (a 18), .i (a 19), .i (a 20), .i (a 21), .i (a 22), .i (a 23), .i (a 24), .i (a 25), .i (a 26), .i (a 27), .i (a 28), .l Z, .l Y]) := loopL_last (m := 2) (f := f14_0) (j := 0) (by
  simp -implicitDefEqProofs only [f14_0, f14_0_0, asI_i, asN_n, asL_l, asB_b, asX_x, asE_nil, ↓Bool.cond_decide, Bool.cond_not, cond_true, cond_false, Bool.not_true, Bool.not_false, show ((0 : Nat) : Int) = 0 from rfl, if_neg (Int.lt_irrefl _)])
theorem sl_1 (a : Nat → Int) (n : Nat) (h Z Y : List Int) (hl : n * 2 ≤ h.length) (hn : n ≤ 5) (hp : 0 < n) (hY : Y.length = 16) : L14_0 (0, [.n n, .l h, .i (n : Int), .i 0, .i (a 0), .i (a 1), .i (a 2), .i (a 3), .n n, .l h, .i (a 5), .i (a 6), .i (a 7), .i (a 8), .i (a 9), .i (a 10), .i (a 11), .i (a 12), .i (a 13), .i (a 14), .i (a 15), .i (a 16), .i (a 17), .i (a 18), .i (a 19), .i (a 20), .i (a 21), .i (a 22), .i (a 23), .i (a 24), .i (a 25), .i (a 26), .i (a 27), .i (a 28), .l Z, .l Y]) = some (1, [.l Z, .l (toG Y h n)]) := by
  refine loopL_run (m := 2) (f := f14_0) (sG a n h Z Y) n (fun k hk => ?_) ?_ (by omega)
  · match k, hk with
    | 0, hk => exact ⟨sg_0 a n h Z Y hk hl hn hY, by show 1 < 2; omega⟩
    | k + 1, hk => exact ⟨sg_1 a n h Z Y k hk hl hn hY, by show 1 < 2; omega⟩
  · obtain ⟨k, rfl⟩ : ∃ k, n = k + 1 := ⟨n - 1, by omega⟩
    show f14_0 (1, [.n (k + 1), .l h, .i ((k + 1 : Nat) : Int), .i ((k + 1 : Nat) : Int), .l Z, .l (toG Y h (k + 1))]) = _
    simp -implicitDefEqProofs only [f14_0, f14_0_1, asI_i, asN_n, asL_l, asB_b, asX_x, asE_nil, ↓Bool.cond_decide, Bool.cond_not, cond_true, cond_false, Bool.not_true, Bool.not_false, if_neg (Int.lt_irrefl _)]
theorem sc_0 (a : Nat → Int) (n : Nat) (h Z Y : List Int) (hY : Y.length = 16) : L14_1 (0, [.l Y, .i 0, .i (a 0), .i (a 1), .i (a 2), .i (a 3), .n n, .l h, .i (a 5), .i (a 6), .i (a 7), .i (a 8), .i (a 9), .i (a 10), .i (a 11), .i (a 12), .i (a 13), .i (a 14), .i (a 15), .i (a 16), .i (a 17), .i (a 18), .i (a 19), .i (a 20), .i (a 21), .i (a 22), .i (a 23), .i (a 24), .i (a 25), .i (a 26), .i (a 27), .i (a 28), .l Z, .l Y]) = some (0, [.i (a 0), .i (a 1), .i (a 2), .i (a 3), .n n, .l h, .i (a 5), .i (a 6), .i (a 7), .i (a 8), .i (a 9), .i (a 10), .i (a 11), .i (a 12), .i (a 13), .i (a 14), .i (a 15), .i (a 16), .i (a 17), .i (a 18), .i (a 19), .i (a 20), .i (a 21), .i (a 22), .i (a 23), .i (a 24), .i (a 25), .i (a 26), .i (a 27), .i (a 28), .l Z, .l (clK Y 16)]) := by
  refine loopL_run (m := 2) (f := f14_1) (fun k => (0, [.l Y, .i (k : Int), .i (a 0), .i (a 1), .i (a 2), .i (a 3), .n n, .l h, .i (a 5), .i (a 6), .i (a 7), .i (a 8), .i (a 9), .i (a 10), .i (a 11), .i (a 12), .i (a 13), .i (a 14), .i (a 15), .i (a 16), .i (a 17), .i (a 18), .i (a 19), .i (a 20), .i (a 21), .i (a 22), .i (a 23), .i (a 24), .i (a 25), .i (a 26), .i (a 27), .i (a 28), .l Z, .l (clK Y k)])) 16 (fun k hk => ⟨?_, by show 0 < 2; omega⟩) ?_ (by omega)
  · have hlen := clK_len Y k
    have w2 : IntKind.i64.wrap ((k : Int) + 1) = ((k + 1 : Nat) : Int) := wrap_nat (n := k + 1) (by omega)
    have e : clK Y (k + 1) = (clK Y k).set k (clamp31 (Y.getD k 0)) := rfl
    have hx := get_some (l := Y) (i := k) (by omega)
    have hc := clamp_v (Y.getD k 0)
    rw [e]
    generalize Y.getD k 0 = v at *
    generalize clK Y k = W at *
    generalize clamp31 v = u at *
    simp -implicitDefEqProofs only [f14_1, f14_1_0, asI_i, asN_n, asL_l, asB_b, asX_x, asE_nil, ↓Bool.cond_decide, Bool.cond_not, cond_true, cond_false, Bool.not_true, Bool.not_false, if_pos (show (k : Int) < 16 by omega), if_pos (show (0 : Int) ≤ k ∧ (k : Int) < 16 by omega), Int.toNat_natCast, hx, optK_some, hc, altK_0, if_pos (show k < W.length by omega), w2]
  · simp -implicitDefEqProofs only [f14_1, f14_1_0, asI_i, asN_n, asL_l, asB_b, asX_x, asE_nil, ↓Bool.cond_decide, Bool.cond_not, cond_true, cond_false, Bool.not_true, Bool.not_false, if_neg (show ¬ ((16 : Nat) : Int) < 16 by omega)]
theorem sc_1 (Z Y : List Int) (hY : Y.length = 16) : L14_1 (1, [.l Y, .i 0, .l Z, .l Y]) = some (1, [.l Z, .l (clK Y 16)]) := by
  refine loopL_run (m := 2) (f := f14_1) (fun k => (1, [.l Y, .i (k : Int), .l Z, .l (clK Y k)])) 16 (fun k hk => ⟨?_, by show 1 < 2; omega⟩) ?_ (by omega)
  · have hlen := clK_len Y k
    have w2 : IntKind.i64.wrap ((k : Int) + 1) = ((k + 1 : Nat) : Int) := wrap_nat (n := k + 1) (by omega)
    have e : clK Y (k + 1) = (clK Y k).set k (clamp31 (Y.getD k 0)) := rfl
    have hx := get_some (l := Y) (i := k) (by omega)
    have hc := clamp_v (Y.getD k 0)
    rw [e]
    generalize Y.getD k 0 = v at *
    generalize clK Y k = W at *
    generalize clamp31 v = u at *
    simp -implicitDefEqProofs only [f14_1, f14_1_1, asI_i, asN_n, asL_l, asB_b, asX_x, asE_nil, ↓Bool.cond_decide, Bool.cond_not, cond_true, cond_false, Bool.not_true, Bool.not_false, if_pos (show (k : Int) < 16 by omega), if_pos (show (0 : Int) ≤ k ∧ (k : Int) < 16 by omega), Int.toNat_natCast, hx, optK_some, hc, altK_0, if_pos (show k < W.length by omega), w2]
  · simp -implicitDefEqProofs only [f14_1, f14_1_1, asI_i, asN_n, asL_l, asB_b, asX_x, asE_nil, ↓Bool.cond_decide, Bool.cond_not, cond_true, cond_false, Bool.not_true, Bool.not_false, if_neg (show ¬ ((16 : Nat) : Int) < 16 by omega)]
theorem d16 : List.drop 16 ([0, 0, 0, 0, 0, 0, 0, 0, 0, 0, 0, 0, 0, 0, 0, 0] : List Int) = [] := rfl
theorem l16 : ([0, 0, 0, 0, 0, 0, 0, 0, 0, 0, 0, 0, 0, 0, 0, 0] : List Int).length = 16 := rfl
theorem spec_v (a : Nat → Int) (n : Nat) (h : List Int) (hl : n * 2 ≤ h.length) (hn : n ≤ 5) : ∃ x : List Int, g14 (0, [.i (a 0), .i (a 1), .i (a 2), .i (a 3), .n n, .l h, .i (a 5), .i (a 6), .i (a 7), .i (a 8), .i (a 9), .i (a 10), .i (a 11), .i (a 12), .i (a 13), .i (a 14), .i (a 15), .i (a 16), .i (a 17), .i (a 18), .i (a 19), .i (a 20), .i (a 21), .i (a 22), .i (a 23), .i (a 24), .i (a 25), .i (a 26), .i (a 27), .i (a 28)]) = some (0, [.l x]) ∧ x.length = 16 ∧ ∀ j, j < 16 → -2147483648 ≤ x.getD j 0 ∧ x.getD j 0 ≤ 2147483648 := by
  obtain ⟨x, hx, h16⟩ := values_v [a 13, a 14, a 15, a 16, a 17, a 18, a 19, a 20, a 21, a 22, a 23, a 24, a 25, a 26, a 27, a 28] [a 5, a 6, a 7, a 8] rfl rfl
  have tx : List.take 16 x = x := List.take_of_length_le (by omega)
  by_cases hp : 0 < n
  · have hlo := sl_1 a n h [0, 0, 0, 0, 0, 0, 0, 0, 0, 0, 0, 0, 0, 0, 0, 0] x hl hn hp h16
    have hY : (toG x h n).length = 16 := by rw [toG_len]; exact h16
    have hc := sc_1 [0, 0, 0, 0, 0, 0, 0, 0, 0, 0, 0, 0, 0, 0, 0, 0] (toG x h n) hY
    have hC : (clK (toG x h n) 16).length = 16 := by rw [clK_len]; exact hY
    have hb := fun j hj => clK_in (toG x h n) 16 j hj (by omega)
    have t1 : List.take 16 (toG x h n) = toG x h n := List.take_of_length_le (by omega)
    have t2 : List.take 16 (clK (toG x h n) 16) = clK (toG x h n) 16 := List.take_of_length_le (by omega)
    refine ⟨_, ?_, hC, hb⟩
    generalize clK (toG x h n) 16 = C at *
    generalize toG x h n = G at *
    simp -implicitDefEqProofs only [g14, g14_0, asI_i, asN_n, asL_l, asB_b, asX_x, asE_nil, ↓Bool.cond_decide, Bool.cond_not, cond_true, cond_false, Bool.not_true, Bool.not_false, hx, altK_0, altK_1, h16, if_true, Nat.zero_add, Nat.le_refl, d16, List.append_nil, hlo, hY, t1, hc, hC, t2, l16]
  · obtain rfl : n = 0 := by omega
    have hlo := sl_0 a h [0, 0, 0, 0, 0, 0, 0, 0, 0, 0, 0, 0, 0, 0, 0, 0] x
    have hc := sc_0 a 0 h [0, 0, 0, 0, 0, 0, 0, 0, 0, 0, 0, 0, 0, 0, 0, 0] x h16
    have hC : (clK x 16).length = 16 := by rw [clK_len]; exact h16
    have hb := fun j hj => clK_in x 16 j hj (by omega)
    have t2 : List.take 16 (clK x 16) = clK x 16 := List.take_of_length_le (by omega)
    refine ⟨_, ?_, hC, hb⟩
    generalize clK x 16 = C at *
    simp -implicitDefEqProofs only [g14, g14_0, asI_i, asN_n, asL_l, asB_b, asX_x, asE_nil, ↓Bool.cond_decide, Bool.cond_not, cond_true, cond_false, Bool.not_true, Bool.not_false, hx, altK_0, altK_1, h16, if_true, Nat.zero_add, Nat.le_refl, d16, List.append_nil, hlo, tx, hc, hC, t2, l16]
/-! ### Halves -/
def halfV (v : Int) : Nat → Int
  | 0 => v
  | k + 1 => Int.tdiv (halfV v k) 2
def In31 (v : Int) : Prop := -2147483648 ≤ v ∧ v ≤ 2147483648
theorem tdiv_pos (v : Int) (hv : 0 ≤ v) (b : Int) : Int.tdiv v b = v / b := Int.tdiv_eq_ediv_of_nonneg hv
theorem tdiv_two {v : Int} (hv : In31 v) : In31 (Int.tdiv v 2) := by
  unfold In31 at *
  rcases Int.le_total 0 v with h | h
  · rw [Int.tdiv_eq_ediv_of_nonneg h]; omega
  · have e : Int.tdiv v 2 = -((-v) / 2) := by
      rw [← Int.tdiv_eq_ediv_of_nonneg (show 0 ≤ -v by omega), Int.neg_tdiv, Int.neg_neg]
    rw [e]; omega
theorem halfV_in {v : Int} (hv : In31 v) : ∀ k, In31 (halfV v k)
  | 0 => hv
  | k + 1 => tdiv_two (halfV_in hv k)
theorem half_ok {v : Int} (hv : In31 v) (k : Nat) (hk : k ≤ 100) : g12 (0, [.i v, .i (k : Int)]) = some (0, [.i (halfV v k)]) := by
  have hl : L12_0 (0, [.i v, .i (k : Int), .i 0]) = some (0, [.i (halfV v k)]) := by
    refine loop1_run (fun q => [.i (halfV v q), .i (k : Int), .i (q : Int)]) k (fun q hq => ?_) ?_ (by omega)
    · have w2 : IntKind.i64.wrap ((q : Int) + 1) = ((q + 1 : Nat) : Int) := wrap_nat (n := q + 1) (by omega)
      have h1 := halfV_in hv (q + 1)
      have e : halfV v (q + 1) = Int.tdiv (halfV v q) 2 := rfl
      rw [e] at h1 ⊢
      unfold In31 at h1
      have w3 : IntKind.i64.wrap (Int.tdiv (halfV v q) 2) = Int.tdiv (halfV v q) 2 := wrap64 (by omega) (by omega)
      simp -implicitDefEqProofs only [f12_0, f12_0_0, asI_i, asN_n, asL_l, asB_b, asX_x, asE_nil, ↓Bool.cond_decide, Bool.cond_not, cond_true, cond_false, Bool.not_true, Bool.not_false, if_pos (show (q : Int) < (k : Int) by omega), w2, w3]
    · simp -implicitDefEqProofs only [f12_0, f12_0_0, asI_i, asN_n, asL_l, asB_b, asX_x, asE_nil, ↓Bool.cond_decide, Bool.cond_not, cond_true, cond_false, Bool.not_true, Bool.not_false, if_neg (Int.lt_irrefl _)]
  simp -implicitDefEqProofs only [g12, g12_0, asI_i, asN_n, asL_l, asB_b, asX_x, asE_nil, ↓Bool.cond_decide, Bool.cond_not, cond_true, cond_false, Bool.not_true, Bool.not_false, hl, altK_0]
theorem cut_ok {v : Int} (hv : In31 v) (k : Nat) (h1 : 1 ≤ k) (h4 : k ≤ 4) : g17 (0, [.i v, .i (k : Int)]) = some (0, [.i (halfV v k)]) := by
  have hb := halfV_in hv k
  have key : ∀ (P : Int), shlI .i64 1 (k : Int) = P → 0 < P → Int.tdiv v P = halfV v k → g17 (0, [.i v, .i (k : Int)]) = some (0, [.i (halfV v k)]) := fun P h1 h2 h3 => by
    unfold In31 at hb
    have w : IntKind.i64.wrap (halfV v k) = halfV v k := wrap64 (by omega) (by omega)
    simp -implicitDefEqProofs only [g17, g17_0, asI_i, asN_n, asL_l, asB_b, asX_x, asE_nil, ↓Bool.cond_decide, Bool.cond_not, cond_true, cond_false, Bool.not_true, Bool.not_false, if_neg (show ¬ (k : Int) < 0 by omega), if_neg (show ¬ (62 : Int) < (k : Int) by omega), h1, if_neg (show ¬ P = 0 by omega), h3, w]
  have hd : ∀ (x a b : Int), 0 ≤ a → 0 ≤ b → Int.tdiv (Int.tdiv x a) b = Int.tdiv x (a * b) := fun x a b ha hb => by
    rcases Int.le_total 0 x with h | h
    · rw [Int.tdiv_eq_ediv_of_nonneg h, Int.tdiv_eq_ediv_of_nonneg h, Int.tdiv_eq_ediv_of_nonneg (Int.ediv_nonneg h ha), Int.ediv_ediv_of_nonneg ha]
    · have e : ∀ c : Int, Int.tdiv x c = -((-x) / c) := fun c => by
        rw [← Int.tdiv_eq_ediv_of_nonneg (show 0 ≤ -x by omega), Int.neg_tdiv, Int.neg_neg]
      rw [e, e, Int.neg_tdiv, Int.tdiv_eq_ediv_of_nonneg (Int.ediv_nonneg (by omega) ha), Int.ediv_ediv_of_nonneg ha]
  match k, h1, h4 with
  | 1, _, _ => exact key 2 rfl (by omega) rfl
  | 2, _, _ => exact key 4 rfl (by omega) (by show _ = Int.tdiv (Int.tdiv v 2) 2; rw [hd _ _ _ (by omega) (by omega)]; rfl)
  | 3, _, _ => exact key 8 rfl (by omega) (by show _ = Int.tdiv (Int.tdiv (Int.tdiv v 2) 2) 2; rw [hd _ _ _ (by omega) (by omega), hd _ _ _ (by omega) (by omega)]; rfl)
  | 4, _, _ => exact key 16 rfl (by omega) (by show _ = Int.tdiv (Int.tdiv (Int.tdiv (Int.tdiv v 2) 2) 2) 2; rw [hd _ _ _ (by omega) (by omega), hd _ _ _ (by omega) (by omega), hd _ _ _ (by omega) (by omega)]; rfl)
theorem few_v (a : Nat → Int) (n : Nat) (h : List Int) : g8 (0, [.i (a 0), .i (a 1), .i (a 2), .i (a 3), .n n, .l h, .i (a 5), .i (a 6), .i (a 7), .i (a 8), .i (a 9), .i (a 10), .i (a 11), .i (a 12), .i (a 13), .i (a 14), .i (a 15), .i (a 16), .i (a 17), .i (a 18), .i (a 19), .i (a 20), .i (a 21), .i (a 22), .i (a 23), .i (a 24), .i (a 25), .i (a 26), .i (a 27), .i (a 28)]) = some (0, [.i (a 0), .i (a 1), .i (a 2), .i (a 3), .n (min 5 n), .l h, .i (a 5), .i (a 6), .i (a 7), .i (a 8), .i (a 9), .i (a 10), .i (a 11), .i (a 12), .i (a 13), .i (a 14), .i (a 15), .i (a 16), .i (a 17), .i (a 18), .i (a 19), .i (a 20), .i (a 21), .i (a 22), .i (a 23), .i (a 24), .i (a 25), .i (a 26), .i (a 27), .i (a 28)]) := by
  by_cases c : (5 : Int) < n
  · rw [show min 5 n = 5 by omega]
    simp -implicitDefEqProofs only [g8, g8_0, asI_i, asN_n, asL_l, asB_b, asX_x, asE_nil, ↓Bool.cond_decide, Bool.cond_not, cond_true, cond_false, Bool.not_true, Bool.not_false, if_pos c, if_pos (show (0 : Int) ≤ 5 ∧ (5 : Int) ≤ n by omega)]
  · rw [show min 5 n = n by omega]
    simp -implicitDefEqProofs only [g8, g8_0, asI_i, asN_n, asL_l, asB_b, asX_x, asE_nil, ↓Bool.cond_decide, Bool.cond_not, cond_true, cond_false, Bool.not_true, Bool.not_false, if_neg c]
end Go.Proofs.Ythofmhnbncopjaa
