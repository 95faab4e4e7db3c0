/-
  What the functions of a frame and of a veil tell, as far as the law of rows needs it. Conditions: none.
-/
import Derived.Test.YthofmhnbncopjaaDecR
import Derived.Test.YthofmhnbncopjaaSpecB
namespace Go.Proofs.Ythofmhnbncopjaa
open Go Go.Sx R
set_option maxRecDepth 100000
set_option linter.unusedVariables false
attribute [local simp] asI_i asB_b asL_l asN_n asS_s asE_nil altK_none altK_0 altK_1 altK_2 altK_3 optK_some optK_none Bool.cond_decide Bool.cond_not Int.toNat_natCast
set_option linter.unusedSimpArgs false
theorem fits_v (v k : Int) : ∃ b, g21 (0, [.i v, .i k]) = some (0, [.b b]) := by
  by_cases c0 : k ≤ 0
  · exact ⟨_, by simp -implicitDefEqProofs only [g21, g21_0, asI_i, asN_n, asL_l, asB_b, asE_nil, Bool.cond_decide, Bool.cond_not, if_pos c0]; rfl⟩
  · by_cases c1 : 63 < k
    · exact ⟨true, by simp -implicitDefEqProofs only [g21, g21_0, asI_i, asN_n, asL_l, asB_b, asE_nil, Bool.cond_decide, Bool.cond_not, if_neg c0, if_pos c1]⟩
    · have w : IntKind.i64.wrap (k - 1) = k - 1 := wrap64 (by omega) (by omega)
      by_cases c2 : shlI .i64 (-1) (k - 1) ≤ v
      · exact ⟨_, by simp -implicitDefEqProofs only [g21, g21_0, asI_i, asN_n, asL_l, asB_b, asE_nil, Bool.cond_decide, Bool.cond_not, if_neg c0, if_neg c1, w, if_neg (show ¬ k - 1 < 0 by omega), if_pos c2]; rfl⟩
      · exact ⟨false, by simp -implicitDefEqProofs only [g21, g21_0, asI_i, asN_n, asL_l, asB_b, asE_nil, Bool.cond_decide, Bool.cond_not, if_neg c0, if_neg c1, w, if_neg (show ¬ k - 1 < 0 by omega), if_neg c2]⟩
theorem clamp_v (x : Int) : g23 (0, [.i x, .i (-2147483648), .i 2147483648]) = some (0, [.i (clamp31 x)]) := by
  unfold clamp31
  simp -implicitDefEqProofs only [g23, g23_0, asI_i, asN_n, asL_l, asB_b, asE_nil, Bool.cond_decide, Bool.cond_not]
  repeat' split
  all_goals first | rfl | omega | (simp only [Option.some.injEq, Prod.mk.injEq, List.cons.injEq, Leaf.i.injEq, true_and, and_true]; omega)
theorem step_v (s : Int) : ∃ v, g24 (0, [.i s]) = some (0, [.i v]) := by
  by_cases c0 : s < 0
  · exact ⟨_, by simp -implicitDefEqProofs only [g24, g24_0, asI_i, asN_n, asL_l, asB_b, asE_nil, Bool.cond_decide, Bool.cond_not, if_pos c0]; rfl⟩
  · by_cases c1 : 23 < s
    · exact ⟨_, by simp -implicitDefEqProofs only [g24, g24_0, asI_i, asN_n, asL_l, asB_b, asE_nil, Bool.cond_decide, Bool.cond_not, if_neg c0, if_pos c1]; rfl⟩
    · exact ⟨_, by simp -implicitDefEqProofs only [g24, g24_0, asI_i, asN_n, asL_l, asB_b, asE_nil, Bool.cond_decide, Bool.cond_not, if_neg c0, if_neg c1]; rfl⟩
theorem band_v (k : Nat) (hk : k < 16) : g25 (0, [.i k]) = some (0, [.i (k / 4 : Nat)]) := by
  have w : IntKind.i64.wrap (Int.tdiv (k : Int) 4) = ((k / 4 : Nat) : Int) := by rw [Int.tdiv_eq_ediv_of_nonneg (by omega), wrap64 (by omega) (by omega)]; omega
  simp -implicitDefEqProofs only [g25, g25_0, asI_i, asN_n, asL_l, asB_b, asE_nil, Bool.cond_decide, Bool.cond_not, if_neg (show ¬ (k : Int) < 0 by omega), if_neg (show ¬ (16 : Int) ≤ k by omega), w]
theorem scales_v (s : List Int) (hs : s.length = 4) : ∃ b, g20 (0, [.l s]) = some (0, [.b b]) := by
  have hl : L20_0 (0, [.l s, .i 0, .l s]) = some (0, [.l s]) ∨ L20_0 (0, [.l s, .i 0, .l s]) = some (1, [.l s]) := by
    have := loop_chain (m := 1) (f := f20_0) (fun k => (0, [.l s, .i k, .l s])) 4 (ja := 1) (jb := 0) (ra := [.l s]) (rb := [.l s]) (fun k _ => by show 0 < 1; omega) (fun k hk => ?_) ?_ (by omega)
    · rcases this with h | h
      · exact Or.inr (by unfold L20_0; exact h)
      · exact Or.inl (by unfold L20_0; exact h)
    · have hx : s[k]? = some (s.getD k 0) := get_some (by omega)
      have w2 : IntKind.i64.wrap ((k : Int) + 1) = ((k + 1 : Nat) : Int) := wrap_nat (n := k + 1) (by omega)
      generalize s.getD k 0 = v at *
      simp -implicitDefEqProofs only [f20_0, f20_0_0, asI_i, asN_n, asL_l, asB_b, asE_nil, Bool.cond_decide, Bool.cond_not, if_pos (show (k : Int) < 4 by omega), if_pos (show (0 : Int) ≤ k ∧ (k : Int) < 4 by omega), Int.toNat_natCast, hx, optK_some, w2]
      (repeat' split) <;> first | exact Or.inl rfl | exact Or.inr rfl
    · simp -implicitDefEqProofs only [f20_0, f20_0_0, asI_i, asN_n, asL_l, asB_b, asE_nil, Bool.cond_decide, Bool.cond_not, if_neg (show ¬ ((4 : Nat) : Int) < 4 by omega)]
  have ht : List.take 4 s = s := List.take_of_length_le (by omega)
  rcases hl with hl | hl
  · exact ⟨true, by simp -implicitDefEqProofs only [g20, g20_0, asI_i, asN_n, asL_l, asB_b, asE_nil, Bool.cond_decide, Bool.cond_not, if_pos (show 4 ≤ s.length by omega), ht, hl, altK_0]⟩
  · exact ⟨false, by simp -implicitDefEqProofs only [g20, g20_0, asI_i, asN_n, asL_l, asB_b, asE_nil, Bool.cond_decide, Bool.cond_not, if_pos (show 4 ≤ s.length by omega), ht, hl, altK_1]⟩
theorem values_step_v (s : List Int) (hs : s.length = 4) (Z q : List Int) (hq : q.length = 16) (k : Nat) (hk : k < 16) : ∃ q' : List Int, q'.length = 16 ∧ f22_0 (0, [.i k, .l q, .l s, .l Z]) = some (0, [.i (k + 1 : Nat), .l q', .l s, .l Z]) := by
  have hx : q[k]? = some (q.getD k 0) := get_some (by omega)
  have hy : s[k / 4]? = some (s.getD (k / 4) 0) := get_some (by omega)
  obtain ⟨v, hv⟩ := step_v (s.getD (k / 4) 0)
  have hb := band_v k hk
  have w2 : IntKind.i64.wrap ((k : Int) + 1) = ((k + 1 : Nat) : Int) := wrap_nat (n := k + 1) (by omega)
  refine ⟨q.set k (IntKind.i64.wrap (q.getD k 0 * v)), by rw [List.length_set]; exact hq, ?_⟩
  generalize q.getD k 0 = u at *
  generalize s.getD (k / 4) 0 = t at *
  simp -implicitDefEqProofs only [f22_0, f22_0_0, asI_i, asN_n, asL_l, asB_b, asE_nil, Bool.cond_decide, Bool.cond_not, if_pos (show (k : Int) < 16 by omega), if_pos (show (0 : Int) ≤ k ∧ (k : Int) < 16 by omega), Int.toNat_natCast, hx, optK_some, hb, altK_0, if_pos (show (0 : Int) ≤ ((k / 4 : Nat) : Int) ∧ ((k / 4 : Nat) : Int) < 4 by omega), hy, hv, if_pos (show k < q.length by omega), w2]
theorem values_v (q s : List Int) (hq : q.length = 16) (hs : s.length = 4) : ∃ x : List Int, g22 (0, [.l q, .l s]) = some (0, [.l x]) ∧ x.length = 16 := by
  obtain ⟨b, hb⟩ := scales_v s hs
  have ht : List.take 4 s = s := List.take_of_length_le (by omega)
  cases b with
  | false => exact ⟨[0, 0, 0, 0, 0, 0, 0, 0, 0, 0, 0, 0, 0, 0, 0, 0], by simp -implicitDefEqProofs only [g22, g22_0, asI_i, asN_n, asL_l, asB_b, asE_nil, Bool.cond_decide, Bool.cond_not, if_pos (show 4 ≤ s.length by omega), ht, hb, altK_0, if_false, cond_false, Bool.not_false, cond_true], rfl⟩
  | true =>
    obtain ⟨Q, hQ0, hQ⟩ : ∃ Q : Nat → List Int, Q 0 = q ∧ ∀ k, (Q k).length = 16 ∧ (k < 16 → f22_0 (0, [.i k, .l (Q k), .l s, .l [0, 0, 0, 0, 0, 0, 0, 0, 0, 0, 0, 0, 0, 0, 0, 0]]) = some (0, [.i (k + 1 : Nat), .l (Q (k + 1)), .l s, .l [0, 0, 0, 0, 0, 0, 0, 0, 0, 0, 0, 0, 0, 0, 0, 0]])) := by
      let Q : (k : Nat) → {l : List Int // l.length = 16} := fun k => Nat.rec ⟨q, hq⟩ (fun k l => if hk : k < 16 then ⟨(values_step_v s hs [0, 0, 0, 0, 0, 0, 0, 0, 0, 0, 0, 0, 0, 0, 0, 0] l.1 l.2 k hk).choose, (values_step_v s hs [0, 0, 0, 0, 0, 0, 0, 0, 0, 0, 0, 0, 0, 0, 0, 0] l.1 l.2 k hk).choose_spec.1⟩ else l) k
      refine ⟨fun k => (Q k).1, rfl, fun k => ⟨(Q k).2, fun hk => ?_⟩⟩
      have e : Q (k + 1) = ⟨(values_step_v s hs [0, 0, 0, 0, 0, 0, 0, 0, 0, 0, 0, 0, 0, 0, 0, 0] (Q k).1 (Q k).2 k hk).choose, (values_step_v s hs [0, 0, 0, 0, 0, 0, 0, 0, 0, 0, 0, 0, 0, 0, 0, 0] (Q k).1 (Q k).2 k hk).choose_spec.1⟩ := by
        show (if hk : k < 16 then _ else _) = _
        rw [dif_pos hk]
      show f22_0 (0, [.i k, .l (Q k).1, .l s, .l [0, 0, 0, 0, 0, 0, 0, 0, 0, 0, 0, 0, 0, 0, 0, 0]]) = some (0, [.i (k + 1 : Nat), .l (Q (k + 1)).1, .l s, .l [0, 0, 0, 0, 0, 0, 0, 0, 0, 0, 0, 0, 0, 0, 0, 0]])
      rw [show (Q (k + 1)).1 = (values_step_v s hs [0, 0, 0, 0, 0, 0, 0, 0, 0, 0, 0, 0, 0, 0, 0, 0] (Q k).1 (Q k).2 k hk).choose by rw [e]]
      exact (values_step_v s hs [0, 0, 0, 0, 0, 0, 0, 0, 0, 0, 0, 0, 0, 0, 0, 0] (Q k).1 (Q k).2 k hk).choose_spec.2
    have hl : L22_0 (0, [.i 0, .l q, .l s, .l [0, 0, 0, 0, 0, 0, 0, 0, 0, 0, 0, 0, 0, 0, 0, 0]]) = some (0, [.l (Q 16), .l s, .l [0, 0, 0, 0, 0, 0, 0, 0, 0, 0, 0, 0, 0, 0, 0, 0]]) := by
      have main := loopL_run (m := 1) (f := f22_0) (fun k => (0, [.i k, .l (Q k), .l s, .l [0, 0, 0, 0, 0, 0, 0, 0, 0, 0, 0, 0, 0, 0, 0, 0]])) 16 (j := 0) (r := [.l (Q 16), .l s, .l [0, 0, 0, 0, 0, 0, 0, 0, 0, 0, 0, 0, 0, 0, 0, 0]]) (fun k hk => ⟨(hQ k).2 hk, by show 0 < 1; omega⟩) ?_ (by omega)
      · simp only [hQ0] at main
        unfold L22_0; exact main
      · simp -implicitDefEqProofs only [f22_0, f22_0_0, asI_i, asN_n, asL_l, asB_b, asE_nil, Bool.cond_decide, Bool.cond_not, if_neg (show ¬ ((16 : Nat) : Int) < 16 by omega)]
    have h16 := (hQ 16).1
    have t16 : List.take 16 (Q 16) = Q 16 := List.take_of_length_le (by omega)
    exact ⟨Q 16, by simp -implicitDefEqProofs only [g22, g22_0, asI_i, asN_n, asL_l, asB_b, asE_nil, Bool.cond_decide, Bool.cond_not, if_pos (show 4 ≤ s.length by omega), ht, hb, altK_0, Bool.not_true, cond_false, hl, t16, h16, if_true, if_pos (show 16 ≤ 16 by omega), if_pos (show 0 + 16 ≤ List.length ([0, 0, 0, 0, 0, 0, 0, 0, 0, 0, 0, 0, 0, 0, 0, 0] : List Int) by decide), drop16, List.append_nil, cond_true], h16⟩
theorem gains_v (s : List Int) (hs : s.length = 4) : ∃ b, g18 (0, [.l s]) = some (0, [.b b]) := by
  have hl : L18_0 (0, [.l s, .i 0, .l s]) = some (0, [.l s]) ∨ L18_0 (0, [.l s, .i 0, .l s]) = some (1, [.l s]) := by
    have := loop_chain (m := 1) (f := f18_0) (fun k => (0, [.l s, .i k, .l s])) 4 (ja := 1) (jb := 0) (ra := [.l s]) (rb := [.l s]) (fun k _ => by show 0 < 1; omega) (fun k hk => ?_) ?_ (by omega)
    · rcases this with h | h
      · exact Or.inr (by unfold L18_0; exact h)
      · exact Or.inl (by unfold L18_0; exact h)
    · have hx : s[k]? = some (s.getD k 0) := get_some (by omega)
      have w2 : IntKind.i64.wrap ((k : Int) + 1) = ((k + 1 : Nat) : Int) := wrap_nat (n := k + 1) (by omega)
      generalize s.getD k 0 = v at *
      simp -implicitDefEqProofs only [f18_0, f18_0_0, asI_i, asN_n, asL_l, asB_b, asE_nil, Bool.cond_decide, Bool.cond_not, if_pos (show (k : Int) < 4 by omega), if_pos (show (0 : Int) ≤ k ∧ (k : Int) < 4 by omega), Int.toNat_natCast, hx, optK_some, w2]
      (repeat' split) <;> first | exact Or.inl rfl | exact Or.inr rfl
    · simp -implicitDefEqProofs only [f18_0, f18_0_0, asI_i, asN_n, asL_l, asB_b, asE_nil, Bool.cond_decide, Bool.cond_not, if_neg (show ¬ ((4 : Nat) : Int) < 4 by omega)]
  have ht : List.take 4 s = s := List.take_of_length_le (by omega)
  rcases hl with hl | hl
  · exact ⟨true, by simp -implicitDefEqProofs only [g18, g18_0, asI_i, asN_n, asL_l, asB_b, asE_nil, Bool.cond_decide, Bool.cond_not, if_pos (show 4 ≤ s.length by omega), ht, hl, altK_0]⟩
  · exact ⟨false, by simp -implicitDefEqProofs only [g18, g18_0, asI_i, asN_n, asL_l, asB_b, asE_nil, Bool.cond_decide, Bool.cond_not, if_pos (show 4 ≤ s.length by omega), ht, hl, altK_1]⟩
theorem tones_v (n : Nat) (h : List Int) (hl : n * 2 ≤ h.length) (hn : n ≤ 5) : ∃ b, g19 (0, [.n n, .l h]) = some (0, [.b b]) := by
  have ind := loopL_ind (m := 1) (f := f19_0) (fun s => ∃ k : Nat, k ≤ n ∧ s = (0, [.n n, .l h, .n n, .l h, .i (n : Int), .i (k : Int)])) (fun s => match s.2 with
    | [_, _, _, _, _, .i k] => n - k.toNat
    | _ => 0) (fun j r => (j = 0 ∧ r = [.n n, .l h]) ∨ (j = 1 ∧ ∃ q, r = [.b false, .l q])) (fun s hs => ?_) (0, [.n n, .l h, .n n, .l h, .i (n : Int), .i ((0 : Nat) : Int)]) ⟨0, Nat.zero_le _, rfl⟩ (by show n - _ < _; omega)
  · obtain ⟨j, r, hL, hP⟩ := ind
    have hL' : L19_0 (0, [.n n, .l h, .n n, .l h, .i (n : Int), .i 0]) = some (j, r) := hL
    rcases hP with ⟨rfl, rfl⟩ | ⟨rfl, q, rfl⟩
    · exact ⟨_, by simp -implicitDefEqProofs only [g19, g19_0, asI_i, asN_n, asL_l, asB_b, asX_x, asE_nil, ↓Bool.cond_decide, Bool.cond_not, cond_true, cond_false, Bool.not_true, Bool.not_false, hL', altK_0]; rfl⟩
    · exact ⟨false, by simp -implicitDefEqProofs only [g19, g19_0, asI_i, asN_n, asL_l, asB_b, asX_x, asE_nil, ↓Bool.cond_decide, Bool.cond_not, cond_true, cond_false, Bool.not_true, Bool.not_false, hL', altK_1]⟩
  · obtain ⟨k, hk, rfl⟩ := hs
    by_cases c : k < n
    · have c0 := cT_0 (h := h) (k := k) (by omega)
      have c1 := cT_1 (h := h) (k := k) (by omega)
      have cl := cT_len (h := h) (k := k) (by omega)
      have w2 : IntKind.i64.wrap ((k : Int) + 1) = ((k + 1 : Nat) : Int) := wrap_nat (n := k + 1) (by omega)
      obtain ⟨b, hb⟩ := fits_v (h.getD (k * 2 + 1) 0) 24
      have hx : 0 < k → h[(k - 1) * 2]? = some (h.getD ((k - 1) * 2) 0) := fun _ => get_some (by omega)
      have w1 : 0 < k → IntKind.i64.wrap ((k : Int) - 1) = ((k - 1 : Nat) : Int) := fun hk => by rw [wrap64 (by omega) (by omega)]; omega
      generalize h.getD (k * 2) 0 = v at *
      generalize h.getD (k * 2 + 1) 0 = u at *
      have key : f19_0 (0, [.n n, .l h, .n n, .l h, .i (n : Int), .i (k : Int)]) = some (0, [.n n, .l h, .n n, .l h, .i (n : Int), .i ((k + 1 : Nat) : Int)]) ∨ ∃ q, f19_0 (0, [.n n, .l h, .n n, .l h, .i (n : Int), .i (k : Int)]) = some (1 + 1, [.b false, .l q]) := by
        by_cases z : 0 < k
        · have hx := hx z
          have w1 := w1 z
          simp -implicitDefEqProofs only [f19_0, f19_0_0, asI_i, asN_n, asL_l, asB_b, asX_x, asE_nil, ↓Bool.cond_decide, Bool.cond_not, cond_true, cond_false, Bool.not_true, Bool.not_false, if_pos (show (k : Int) < (n : Int) by omega), if_pos (show (0 : Int) ≤ (k : Int) ∧ (k : Int) < (n : Int) by omega), Int.toNat_natCast, if_pos (show k * 2 + 2 ≤ h.length by omega), cl, if_true, Nat.zero_add, Nat.le_refl, show List.drop 2 ([0, 0] : List Int) = [] from rfl, List.append_nil, c0, c1, optK_some, if_pos (show (0 : Int) < (k : Int) by omega), w1, if_pos (show (0 : Int) ≤ ((k - 1 : Nat) : Int) ∧ ((k - 1 : Nat) : Int) < (n : Int) by omega), hx, hb, altK_0, w2]
          cases b <;> (simp only [cond_true, cond_false, Bool.not_true, Bool.not_false]; (repeat' split) <;> first | exact .inl rfl | exact .inr ⟨_, rfl⟩)
        · simp -implicitDefEqProofs only [f19_0, f19_0_0, asI_i, asN_n, asL_l, asB_b, asX_x, asE_nil, ↓Bool.cond_decide, Bool.cond_not, cond_true, cond_false, Bool.not_true, Bool.not_false, if_pos (show (k : Int) < (n : Int) by omega), if_pos (show (0 : Int) ≤ (k : Int) ∧ (k : Int) < (n : Int) by omega), Int.toNat_natCast, if_pos (show k * 2 + 2 ≤ h.length by omega), cl, if_true, Nat.zero_add, Nat.le_refl, show List.drop 2 ([0, 0] : List Int) = [] from rfl, List.append_nil, c0, c1, optK_some, if_neg (show ¬ (0 : Int) < (k : Int) by omega), hb, altK_0, w2]
          cases b <;> (simp only [cond_true, cond_false, Bool.not_true, Bool.not_false]; (repeat' split) <;> first | exact .inl rfl | exact .inr ⟨_, rfl⟩)
      rcases key with e | ⟨q, e⟩
      · refine .inl ⟨_, e, by show 0 < 1; omega, ⟨k + 1, by omega, rfl⟩, ?_⟩
        show n - ((k + 1 : Nat) : Int).toNat < n - (k : Int).toNat
        omega
      · exact .inr ⟨1, _, e, .inr ⟨rfl, q, rfl⟩⟩
    · refine .inr ⟨0, _, ?_, .inl ⟨rfl, rfl⟩⟩
      obtain rfl : k = n := by omega
      simp -implicitDefEqProofs only [f19_0, f19_0_0, asI_i, asN_n, asL_l, asB_b, asX_x, asE_nil, ↓Bool.cond_decide, Bool.cond_not, cond_true, cond_false, Bool.not_true, Bool.not_false, if_neg (Int.lt_irrefl _)]
/-! ### A frame -/
theorem getN {l : List NC} {i : Nat} (h : i < l.length) : l[i]? = some (l.getD i ⟨0, []⟩) := get_someN h
theorem drop_all {p : List Int} {n : Nat} (h : p.length ≤ n) : List.drop n p = [] := List.drop_eq_nil_of_le h
/-- A frame of at most five tones. -/
structure okX (X : List NC) : Prop where
  len : X.length = 29
  flat : ∀ j, j < 29 → j ≠ 4 → (X.getD j ⟨0, []⟩).l = []
  mid : (X.getD 4 ⟨0, []⟩).i = 0
  few : (X.getD 4 ⟨0, []⟩).l.length / 2 ≤ 5
/-- The inner loop of frame.Right: up to four numbers from the o-th place on. -/
theorem rin_v (X : List NC) (hX : X.length = 29) (w : Int) (W : List Int) (i : Int) (q : Nat) (hq : 13 ≤ q ∧ q + 4 ≤ 29) :
    (L13_0 (0, [.i w, .l W, .i i, .n q, .n 4, .i 4, .i 0, .x X]) = some (0, [.l W, .i i, .x X])) ∨ (L13_0 (0, [.i w, .l W, .i i, .n q, .n 4, .i 4, .i 0, .x X]) = some (1, [.x X])) := by
  have := loop_chain (m := 1) (f := f13_0) (fun k => (0, [.i w, .l W, .i i, .n q, .n 4, .i 4, .i (k : Int), .x X])) 4 (ja := 1) (jb := 0) (ra := [.x X]) (rb := [.l W, .i i, .x X]) (fun k hk => by show 0 < 1; omega) (fun k hk => ?_) ?_ (by omega)
  · rcases this with h | h
    · exact .inr h
    · exact .inl h
  · have hx := getN (l := X) (i := k + q) (by omega)
    have w2 : IntKind.i64.wrap ((k : Int) + 1) = ((k + 1 : Nat) : Int) := wrap_nat (n := k + 1) (by omega)
    obtain ⟨b, hb⟩ := fits_v (X.getD (k + q) ⟨0, []⟩).i w
    have m4 : ¬ (k + q) % 29 < 4 := by omega
    have m5 : ¬ (k + q) % 29 < 5 := by omega
    generalize X.getD (k + q) ⟨0, []⟩ = x at *
    cases b
    · right
      simp -implicitDefEqProofs only [f13_0, f13_0_0, asI_i, asN_n, asL_l, asB_b, asX_x, asE_nil, ↓Bool.cond_decide, Bool.cond_not, cond_true, cond_false, Bool.not_true, Bool.not_false, ↓reduceIte, Nat.zero_add, List.append_nil, Nat.le_refl, eq_self, true_and, and_true, not_true_eq_false, not_false_eq_true, ne_eq, decide_true, decide_false, decide_eq_true_eq, if_pos (show (k : Int) < 4 by omega), if_pos (show (0 : Int) ≤ (k : Int) ∧ (k : Int) < ((4 : Nat) : Int) by omega), Int.toNat_natCast, hx, optK_some, if_neg m4, if_neg m5, hb, altK_0]
    · left
      simp -implicitDefEqProofs only [f13_0, f13_0_0, asI_i, asN_n, asL_l, asB_b, asX_x, asE_nil, ↓Bool.cond_decide, Bool.cond_not, cond_true, cond_false, Bool.not_true, Bool.not_false, ↓reduceIte, Nat.zero_add, List.append_nil, Nat.le_refl, eq_self, true_and, and_true, not_true_eq_false, not_false_eq_true, ne_eq, decide_true, decide_false, decide_eq_true_eq, if_pos (show (k : Int) < 4 by omega), if_pos (show (0 : Int) ≤ (k : Int) ∧ (k : Int) < ((4 : Nat) : Int) by omega), Int.toNat_natCast, hx, optK_some, if_neg m4, if_neg m5, hb, altK_0, w2]
  · simp -implicitDefEqProofs only [f13_0, f13_0_0, asI_i, asN_n, asL_l, asB_b, asX_x, asE_nil, ↓Bool.cond_decide, Bool.cond_not, cond_true, cond_false, Bool.not_true, Bool.not_false, ↓reduceIte, Nat.zero_add, List.append_nil, Nat.le_refl, eq_self, true_and, and_true, not_true_eq_false, not_false_eq_true, ne_eq, decide_true, decide_false, decide_eq_true_eq, if_neg (show ¬ ((4 : Nat) : Int) < 4 by omega)]
theorem rout_v (X : List NC) (hX : X.length = 29) (W : List Int) (hW : W.length = 4) :
    (L13_1 (0, [.l W, .i 0, .x X]) = some (0, [.x X])) ∨ (L13_1 (0, [.l W, .i 0, .x X]) = some (1, [.x X])) := by
  have := loop_chain (m := 1) (f := f13_1) (fun k => (0, [.l W, .i (k : Int), .x X])) 4 (ja := 1) (jb := 0) (ra := [.x X]) (rb := [.x X]) (fun k hk => by show 0 < 1; omega) (fun k hk => ?_) ?_ (by omega)
  · rcases this with h | h
    · exact .inr h
    · exact .inl h
  · have hx := get_some (l := W) (i := k) (by omega)
    have w2 : IntKind.i64.wrap ((k : Int) + 1) = ((k + 1 : Nat) : Int) := wrap_nat (n := k + 1) (by omega)
    have w3 : IntKind.i64.wrap (((k + 1 : Nat) : Int) * 4) = ((4 * k + 4 : Nat) : Int) := by rw [wrap64 (by omega) (by omega)]; omega
    have w4 : IntKind.i64.wrap ((k : Int) * 4) = ((4 * k : Nat) : Int) := by rw [wrap64 (by omega) (by omega)]; omega
    have e4 : 4 * k + 4 - 4 * k = 4 := by omega
    generalize W.getD k 0 = v at *
    have hin := rin_v X hX v W (k : Int) (4 * k + 13) (by omega)
    have base : f13_1 (0, [.l W, .i (k : Int), .x X]) = if v < 0 then some (2, [.x X]) else if 24 < v then some (2, [.x X]) else altK (L13_0 (0, [.i v, .l W, .i (k : Int), .n (4 * k + 13), .n 4, .i 4, .i 0, .x X])) [fun r => some (0, [.l W, .i ((k + 1 : Nat) : Int), .x X]), fun r => some (2, [.x X])] none := by
      by_cases c1 : v < 0
      · simp -implicitDefEqProofs only [f13_1, f13_1_0, asI_i, asN_n, asL_l, asB_b, asX_x, asE_nil, ↓Bool.cond_decide, Bool.cond_not, cond_true, cond_false, Bool.not_true, Bool.not_false, ↓reduceIte, Nat.zero_add, List.append_nil, Nat.le_refl, eq_self, true_and, and_true, not_true_eq_false, not_false_eq_true, ne_eq, decide_true, decide_false, decide_eq_true_eq, if_pos (show (k : Int) < 4 by omega), if_pos (show (0 : Int) ≤ (k : Int) ∧ (k : Int) < 4 by omega), Int.toNat_natCast, hx, optK_some, if_pos c1]
      by_cases c2 : 24 < v
      · simp -implicitDefEqProofs only [f13_1, f13_1_0, asI_i, asN_n, asL_l, asB_b, asX_x, asE_nil, ↓Bool.cond_decide, Bool.cond_not, cond_true, cond_false, Bool.not_true, Bool.not_false, ↓reduceIte, Nat.zero_add, List.append_nil, Nat.le_refl, eq_self, true_and, and_true, not_true_eq_false, not_false_eq_true, ne_eq, decide_true, decide_false, decide_eq_true_eq, if_pos (show (k : Int) < 4 by omega), if_pos (show (0 : Int) ≤ (k : Int) ∧ (k : Int) < 4 by omega), Int.toNat_natCast, hx, optK_some, if_neg c1, if_pos c2]
      rcases hin with h | h
      · simp -implicitDefEqProofs only [f13_1, f13_1_0, asI_i, asN_n, asL_l, asB_b, asX_x, asE_nil, ↓Bool.cond_decide, Bool.cond_not, cond_true, cond_false, Bool.not_true, Bool.not_false, ↓reduceIte, Nat.zero_add, List.append_nil, Nat.le_refl, eq_self, true_and, and_true, not_true_eq_false, not_false_eq_true, ne_eq, decide_true, decide_false, decide_eq_true_eq, if_pos (show (k : Int) < 4 by omega), if_pos (show (0 : Int) ≤ (k : Int) ∧ (k : Int) < 4 by omega), Int.toNat_natCast, hx, optK_some, if_neg c1, if_neg c2, w2, w3, w4, if_pos (show (0 : Int) ≤ ((4 * k + 4 : Nat) : Int) ∧ ((4 * k + 4 : Nat) : Int) ≤ 16 by omega), if_pos (show (0 : Int) ≤ ((4 * k : Nat) : Int) ∧ ((4 * k : Nat) : Int) ≤ ((4 * k + 4 : Nat) : Int) by omega), if_pos (show 29 ≤ X.length by omega), e4, show ((4 : Nat) : Int) = 4 from rfl, h, altK_0, w2]
      · simp -implicitDefEqProofs only [f13_1, f13_1_0, asI_i, asN_n, asL_l, asB_b, asX_x, asE_nil, ↓Bool.cond_decide, Bool.cond_not, cond_true, cond_false, Bool.not_true, Bool.not_false, ↓reduceIte, Nat.zero_add, List.append_nil, Nat.le_refl, eq_self, true_and, and_true, not_true_eq_false, not_false_eq_true, ne_eq, decide_true, decide_false, decide_eq_true_eq, if_pos (show (k : Int) < 4 by omega), if_pos (show (0 : Int) ≤ (k : Int) ∧ (k : Int) < 4 by omega), Int.toNat_natCast, hx, optK_some, if_neg c1, if_neg c2, w2, w3, w4, if_pos (show (0 : Int) ≤ ((4 * k + 4 : Nat) : Int) ∧ ((4 * k + 4 : Nat) : Int) ≤ 16 by omega), if_pos (show (0 : Int) ≤ ((4 * k : Nat) : Int) ∧ ((4 * k : Nat) : Int) ≤ ((4 * k + 4 : Nat) : Int) by omega), if_pos (show 29 ≤ X.length by omega), e4, show ((4 : Nat) : Int) = 4 from rfl, h, altK_1]
    show f13_1 (0, [.l W, .i (k : Int), .x X]) = some (0, [.l W, .i ((k + 1 : Nat) : Int), .x X]) ∨ f13_1 (0, [.l W, .i (k : Int), .x X]) = some (1 + 1, [.x X])
    rw [base]
    by_cases c1 : v < 0
    · rw [if_pos c1]; exact .inr rfl
    rw [if_neg c1]
    by_cases c2 : 24 < v
    · rw [if_pos c2]; exact .inr rfl
    rw [if_neg c2]
    rcases hin with h | h <;> rw [h]
    · exact .inl rfl
    · exact .inr rfl
  · simp -implicitDefEqProofs only [f13_1, f13_1_0, asI_i, asN_n, asL_l, asB_b, asX_x, asE_nil, ↓Bool.cond_decide, Bool.cond_not, cond_true, cond_false, Bool.not_true, Bool.not_false, ↓reduceIte, Nat.zero_add, List.append_nil, Nat.le_refl, eq_self, true_and, and_true, not_true_eq_false, not_false_eq_true, ne_eq, decide_true, decide_false, decide_eq_true_eq, if_neg (show ¬ ((4 : Nat) : Int) < 4 by omega)]
theorem mapi_len {X : List NC} {a n : Nat} (h : a + n ≤ X.length) : (List.map NC.i (List.take n (List.drop a X))).length = n := by
  rw [List.length_map, List.length_take, List.length_drop]; omega
theorem right_v {X : List NC} (h : okX X) : ∃ b, g13 (0, [.x X]) = some (0, [.b b]) := by
  obtain ⟨b1, h1⟩ := gains_v (List.map NC.i (List.take 4 X)) (by have := mapi_len (X := X) (a := 0) (n := 4) (by rw [h.len]; omega); simpa using this)
  have hx := getN (l := X) (i := 4) (by rw [h.len]; omega)
  have hfew := h.few
  generalize X.getD 4 ⟨0, []⟩ = x at *
  have hd : x.l.length / 2 * 2 ≤ x.l.length := by omega
  have hlt : (List.take (x.l.length / 2 * 2) x.l).length = x.l.length / 2 * 2 := by rw [List.length_take]; omega
  obtain ⟨b2, h2⟩ := tones_v ((List.take (x.l.length / 2 * 2) x.l).length / 2) (List.take (x.l.length / 2 * 2) x.l) (by omega) (by omega)
  obtain ⟨b3, h3⟩ := scales_v (List.map NC.i (List.take 4 (List.drop 5 X))) (mapi_len (by rw [h.len]; omega))
  have h4 := rout_v X h.len (List.map NC.i (List.take 4 (List.drop 9 X))) (mapi_len (by rw [h.len]; omega))
  have hl := h.len
  have h2' : g19 (0, [.n ((List.take (x.l.length / nat_lit 2 * 2) x.l).length / 2), .l (List.take (x.l.length / nat_lit 2 * 2) x.l)]) = some (0, [.b b2]) := h2
  cases b1
  · exact ⟨false, by simp -implicitDefEqProofs only [g13, g13_0, asI_i, asN_n, asL_l, asB_b, asX_x, asE_nil, ↓Bool.cond_decide, Bool.cond_not, cond_true, cond_false, Bool.not_true, Bool.not_false, ↓reduceIte, Nat.zero_add, List.append_nil, Nat.le_refl, eq_self, true_and, and_true, not_true_eq_false, not_false_eq_true, ne_eq, decide_true, decide_false, decide_eq_true_eq, if_pos (show 4 ≤ X.length by omega), h1, altK_0]⟩
  cases b2
  · exact ⟨false, by simp -implicitDefEqProofs only [g13, g13_0, asI_i, asN_n, asL_l, asB_b, asX_x, asE_nil, ↓Bool.cond_decide, Bool.cond_not, cond_true, cond_false, Bool.not_true, Bool.not_false, ↓reduceIte, Nat.zero_add, List.append_nil, Nat.le_refl, eq_self, true_and, and_true, not_true_eq_false, not_false_eq_true, ne_eq, decide_true, decide_false, decide_eq_true_eq, if_pos (show 4 ≤ X.length by omega), h1, altK_0, hx, optK_some, if_pos hd, h2']⟩
  cases b3
  · exact ⟨false, by simp -implicitDefEqProofs only [g13, g13_0, asI_i, asN_n, asL_l, asB_b, asX_x, asE_nil, ↓Bool.cond_decide, Bool.cond_not, cond_true, cond_false, Bool.not_true, Bool.not_false, ↓reduceIte, Nat.zero_add, List.append_nil, Nat.le_refl, eq_self, true_and, and_true, not_true_eq_false, not_false_eq_true, ne_eq, decide_true, decide_false, decide_eq_true_eq, if_pos (show 4 ≤ X.length by omega), if_pos (show 9 ≤ X.length by omega), h1, altK_0, hx, optK_some, if_pos hd, h2', h3]⟩
  rcases h4 with h4 | h4
  · exact ⟨true, by simp -implicitDefEqProofs only [g13, g13_0, asI_i, asN_n, asL_l, asB_b, asX_x, asE_nil, ↓Bool.cond_decide, Bool.cond_not, cond_true, cond_false, Bool.not_true, Bool.not_false, ↓reduceIte, Nat.zero_add, List.append_nil, Nat.le_refl, eq_self, true_and, and_true, not_true_eq_false, not_false_eq_true, ne_eq, decide_true, decide_false, decide_eq_true_eq, if_pos (show 4 ≤ X.length by omega), if_pos (show 9 ≤ X.length by omega), if_pos (show 13 ≤ X.length by omega), h1, altK_0, hx, optK_some, if_pos hd, h2', h3, h4]⟩
  · exact ⟨false, by simp -implicitDefEqProofs only [g13, g13_0, asI_i, asN_n, asL_l, asB_b, asX_x, asE_nil, ↓Bool.cond_decide, Bool.cond_not, cond_true, cond_false, Bool.not_true, Bool.not_false, ↓reduceIte, Nat.zero_add, List.append_nil, Nat.le_refl, eq_self, true_and, and_true, not_true_eq_false, not_false_eq_true, ne_eq, decide_true, decide_false, decide_eq_true_eq, if_pos (show 4 ≤ X.length by omega), if_pos (show 9 ≤ X.length by omega), if_pos (show 13 ≤ X.length by omega), h1, altK_0, altK_1, hx, optK_some, if_pos hd, h2', h3, h4]⟩
/-! ### A frame's spectrum -/
theorem setG {Y : List Int} (hY : Y.length = 16) (v u : Int) : ∃ Y' : List Int, Y'.length = 16 ∧ ((0 ≤ v ∧ v < 16) → Y' = Y.set v.toNat u) ∧ (¬ (0 ≤ v ∧ v < 16) → Y' = Y) := by
  by_cases h : 0 ≤ v ∧ v < 16
  · exact ⟨Y.set v.toNat u, by rw [List.length_set]; exact hY, fun _ => rfl, fun n => absurd h n⟩
  · exact ⟨Y, hY, fun n => absurd n h, fun _ => rfl⟩

theorem tstep_0 (X : List NC) (n : Nat) (h Z Y : List Int) (k : Nat) (hk : k < n) (hl : n * 2 ≤ h.length) (hn : n ≤ 5) (hY : Y.length = 16) : ∃ Y' : List Int, Y'.length = 16 ∧ f14_0 (0, [.n n, .l h, .i (n : Int), .i (k : Int), .x X, .l Z, .l Y]) = some (1, [.n n, .l h, .i (n : Int), .i ((k + 1 : Nat) : Int), .l Z, .l Y']) := by
  have c0 := cT_0 (h := h) (k := k) (by omega)
  have c1 := cT_1 (h := h) (k := k) (by omega)
  have cl := cT_len (h := h) (k := k) (by omega)
  have w2 : IntKind.i64.wrap ((k : Int) + 1) = ((k + 1 : Nat) : Int) := wrap_nat (n := k + 1) (by omega)
  generalize h.getD (k * 2) 0 = v at *
  generalize h.getD (k * 2 + 1) 0 = u at *
  obtain ⟨Y', h1, h2, h3⟩ := setG hY v (IntKind.i64.wrap (Y.getD v.toNat 0 + u))
  refine ⟨Y', h1, ?_⟩
  by_cases q0 : 0 ≤ v
  · by_cases q1 : v < 16
    · have hx := get_some (l := Y) (i := v.toNat) (by omega)
      rw [h2 ⟨q0, q1⟩]
      generalize Y.getD v.toNat 0 = x at *
      simp -implicitDefEqProofs only [f14_0, f14_0_0, asI_i, asN_n, asL_l, asB_b, asX_x, asE_nil, ↓Bool.cond_decide, Bool.cond_not, cond_true, cond_false, Bool.not_true, Bool.not_false, ↓reduceIte, Nat.zero_add, List.append_nil, Nat.le_refl, eq_self, true_and, and_true, not_true_eq_false, not_false_eq_true, ne_eq, decide_true, decide_false, decide_eq_true_eq, if_pos (show (k : Int) < (n : Int) by omega), if_pos (show (0 : Int) ≤ (k : Int) ∧ (k : Int) < (n : Int) by omega), Int.toNat_natCast, if_pos (show k * 2 + 2 ≤ h.length by omega), cl, show List.drop 2 ([0, 0] : List Int) = [] from rfl, c0, c1, optK_some, w2, if_pos q0, if_pos q1, if_pos (show 0 ≤ v ∧ v < 16 from ⟨q0, q1⟩), hx, if_pos (show v.toNat < Y.length by omega)]
    · rw [h3 (fun z => q1 z.2)]
      simp -implicitDefEqProofs only [f14_0, f14_0_0, asI_i, asN_n, asL_l, asB_b, asX_x, asE_nil, ↓Bool.cond_decide, Bool.cond_not, cond_true, cond_false, Bool.not_true, Bool.not_false, ↓reduceIte, Nat.zero_add, List.append_nil, Nat.le_refl, eq_self, true_and, and_true, not_true_eq_false, not_false_eq_true, ne_eq, decide_true, decide_false, decide_eq_true_eq, if_pos (show (k : Int) < (n : Int) by omega), if_pos (show (0 : Int) ≤ (k : Int) ∧ (k : Int) < (n : Int) by omega), Int.toNat_natCast, if_pos (show k * 2 + 2 ≤ h.length by omega), cl, show List.drop 2 ([0, 0] : List Int) = [] from rfl, c0, c1, optK_some, w2, if_pos q0, if_neg q1]
  · rw [h3 (fun z => q0 z.1)]
    simp -implicitDefEqProofs only [f14_0, f14_0_0, asI_i, asN_n, asL_l, asB_b, asX_x, asE_nil, ↓Bool.cond_decide, Bool.cond_not, cond_true, cond_false, Bool.not_true, Bool.not_false, ↓reduceIte, Nat.zero_add, List.append_nil, Nat.le_refl, eq_self, true_and, and_true, not_true_eq_false, not_false_eq_true, ne_eq, decide_true, decide_false, decide_eq_true_eq, if_pos (show (k : Int) < (n : Int) by omega), if_pos (show (0 : Int) ≤ (k : Int) ∧ (k : Int) < (n : Int) by omega), Int.toNat_natCast, if_pos (show k * 2 + 2 ≤ h.length by omega), cl, show List.drop 2 ([0, 0] : List Int) = [] from rfl, c0, c1, optK_some, w2, if_neg q0]
theorem tstep_1 (X : List NC) (n : Nat) (h Z Y : List Int) (k : Nat) (hk : k < n) (hl : n * 2 ≤ h.length) (hn : n ≤ 5) (hY : Y.length = 16) : ∃ Y' : List Int, Y'.length = 16 ∧ f14_0 (1, [.n n, .l h, .i (n : Int), .i (k : Int), .l Z, .l Y]) = some (1, [.n n, .l h, .i (n : Int), .i ((k + 1 : Nat) : Int), .l Z, .l Y']) := by
  have c0 := cT_0 (h := h) (k := k) (by omega)
  have c1 := cT_1 (h := h) (k := k) (by omega)
  have cl := cT_len (h := h) (k := k) (by omega)
  have w2 : IntKind.i64.wrap ((k : Int) + 1) = ((k + 1 : Nat) : Int) := wrap_nat (n := k + 1) (by omega)
  generalize h.getD (k * 2) 0 = v at *
  generalize h.getD (k * 2 + 1) 0 = u at *
  obtain ⟨Y', h1, h2, h3⟩ := setG hY v (IntKind.i64.wrap (Y.getD v.toNat 0 + u))
  refine ⟨Y', h1, ?_⟩
  by_cases q0 : 0 ≤ v
  · by_cases q1 : v < 16
    · have hx := get_some (l := Y) (i := v.toNat) (by omega)
      rw [h2 ⟨q0, q1⟩]
      generalize Y.getD v.toNat 0 = x at *
      simp -implicitDefEqProofs only [f14_0, f14_0_1, asI_i, asN_n, asL_l, asB_b, asX_x, asE_nil, ↓Bool.cond_decide, Bool.cond_not, cond_true, cond_false, Bool.not_true, Bool.not_false, ↓reduceIte, Nat.zero_add, List.append_nil, Nat.le_refl, eq_self, true_and, and_true, not_true_eq_false, not_false_eq_true, ne_eq, decide_true, decide_false, decide_eq_true_eq, if_pos (show (k : Int) < (n : Int) by omega), if_pos (show (0 : Int) ≤ (k : Int) ∧ (k : Int) < (n : Int) by omega), Int.toNat_natCast, if_pos (show k * 2 + 2 ≤ h.length by omega), cl, show List.drop 2 ([0, 0] : List Int) = [] from rfl, c0, c1, optK_some, w2, if_pos q0, if_pos q1, if_pos (show 0 ≤ v ∧ v < 16 from ⟨q0, q1⟩), hx, if_pos (show v.toNat < Y.length by omega)]
    · rw [h3 (fun z => q1 z.2)]
      simp -implicitDefEqProofs only [f14_0, f14_0_1, asI_i, asN_n, asL_l, asB_b, asX_x, asE_nil, ↓Bool.cond_decide, Bool.cond_not, cond_true, cond_false, Bool.not_true, Bool.not_false, ↓reduceIte, Nat.zero_add, List.append_nil, Nat.le_refl, eq_self, true_and, and_true, not_true_eq_false, not_false_eq_true, ne_eq, decide_true, decide_false, decide_eq_true_eq, if_pos (show (k : Int) < (n : Int) by omega), if_pos (show (0 : Int) ≤ (k : Int) ∧ (k : Int) < (n : Int) by omega), Int.toNat_natCast, if_pos (show k * 2 + 2 ≤ h.length by omega), cl, show List.drop 2 ([0, 0] : List Int) = [] from rfl, c0, c1, optK_some, w2, if_pos q0, if_neg q1]
  · rw [h3 (fun z => q0 z.1)]
    simp -implicitDefEqProofs only [f14_0, f14_0_1, asI_i, asN_n, asL_l, asB_b, asX_x, asE_nil, ↓Bool.cond_decide, Bool.cond_not, cond_true, cond_false, Bool.not_true, Bool.not_false, ↓reduceIte, Nat.zero_add, List.append_nil, Nat.le_refl, eq_self, true_and, and_true, not_true_eq_false, not_false_eq_true, ne_eq, decide_true, decide_false, decide_eq_true_eq, if_pos (show (k : Int) < (n : Int) by omega), if_pos (show (0 : Int) ≤ (k : Int) ∧ (k : Int) < (n : Int) by omega), Int.toNat_natCast, if_pos (show k * 2 + 2 ≤ h.length by omega), cl, show List.drop 2 ([0, 0] : List Int) = [] from rfl, c0, c1, optK_some, w2, if_neg q0]
theorem tloop (X : List NC) (n : Nat) (h Z Y : List Int) (hl : n * 2 ≤ h.length) (hn : n ≤ 5) (hY : Y.length = 16) :
    (n = 0 ∧ L14_0 (0, [.n n, .l h, .i (n : Int), .i 0, .x X, .l Z, .l Y]) = some (0, [.x X, .l Z, .l Y])) ∨ ∃ Y' : List Int, Y'.length = 16 ∧ L14_0 (0, [.n n, .l h, .i (n : Int), .i 0, .x X, .l Z, .l Y]) = some (1, [.l Z, .l Y']) := by
  have ind := loopL_ind (m := 2) (f := f14_0) (fun s => ∃ (k : Nat) (Y' : List Int), k ≤ n ∧ Y'.length = 16 ∧ ((k = 0 ∧ Y' = Y ∧ s = (0, [.n n, .l h, .i (n : Int), .i (k : Int), .x X, .l Z, .l Y])) ∨ (1 ≤ k ∧ s = (1, [.n n, .l h, .i (n : Int), .i (k : Int), .l Z, .l Y'])))) (fun s => match s.2 with
    | [_, _, _, .i k, _, _, _] => n - k.toNat
    | [_, _, _, .i k, _, _] => n - k.toNat
    | _ => 0) (fun j r => (n = 0 ∧ j = 0 ∧ r = [.x X, .l Z, .l Y]) ∨ (j = 1 ∧ ∃ Y' : List Int, Y'.length = 16 ∧ r = [.l Z, .l Y'])) (fun s hs => ?_) (0, [.n n, .l h, .i (n : Int), .i ((0 : Nat) : Int), .x X, .l Z, .l Y]) ⟨0, Y, Nat.zero_le _, hY, .inl ⟨rfl, rfl, rfl⟩⟩ (by show n - _ < _; omega)
  · obtain ⟨j, r, hL, hP⟩ := ind
    have hL' : L14_0 (0, [.n n, .l h, .i (n : Int), .i 0, .x X, .l Z, .l Y]) = some (j, r) := hL
    rcases hP with ⟨h0, rfl, rfl⟩ | ⟨rfl, Y', h1, rfl⟩
    · exact .inl ⟨h0, hL'⟩
    · exact .inr ⟨Y', h1, hL'⟩
  · obtain ⟨k, Y', hk, h1, ⟨rfl, rfl, rfl⟩ | ⟨hk1, rfl⟩⟩ := hs
    · by_cases c : 0 < n
      · obtain ⟨Y2, e1, e2⟩ := tstep_0 X n h Z Y' 0 c hl hn h1
        refine .inl ⟨_, e2, by show 1 < 2; omega, ⟨0 + 1, Y2, by omega, e1, .inr ⟨by omega, rfl⟩⟩, ?_⟩
        show n - ((0 + 1 : Nat) : Int).toNat < n - ((0 : Nat) : Int).toNat
        omega
      · obtain rfl : n = 0 := by omega
        refine .inr ⟨0, _, ?_, .inl ⟨rfl, rfl, rfl⟩⟩
        simp -implicitDefEqProofs only [f14_0, f14_0_0, asI_i, asN_n, asL_l, asB_b, asX_x, asE_nil, ↓Bool.cond_decide, Bool.cond_not, cond_true, cond_false, Bool.not_true, Bool.not_false, ↓reduceIte, Nat.zero_add, List.append_nil, Nat.le_refl, eq_self, true_and, and_true, not_true_eq_false, not_false_eq_true, ne_eq, decide_true, decide_false, decide_eq_true_eq, if_neg (Int.lt_irrefl _)]
    · by_cases c : k < n
      · obtain ⟨Y2, e1, e2⟩ := tstep_1 X n h Z Y' k c hl hn h1
        refine .inl ⟨_, e2, by show 1 < 2; omega, ⟨k + 1, Y2, by omega, e1, .inr ⟨by omega, rfl⟩⟩, ?_⟩
        show n - ((k + 1 : Nat) : Int).toNat < n - (k : Int).toNat
        omega
      · obtain rfl : k = n := by omega
        refine .inr ⟨1, _, ?_, .inr ⟨rfl, Y', h1, rfl⟩⟩
        simp -implicitDefEqProofs only [f14_0, f14_0_1, asI_i, asN_n, asL_l, asB_b, asX_x, asE_nil, ↓Bool.cond_decide, Bool.cond_not, cond_true, cond_false, Bool.not_true, Bool.not_false, ↓reduceIte, Nat.zero_add, List.append_nil, Nat.le_refl, eq_self, true_and, and_true, not_true_eq_false, not_false_eq_true, ne_eq, decide_true, decide_false, decide_eq_true_eq, if_neg (Int.lt_irrefl _)]
theorem cloop_0 (X : List NC) (Z Y : List Int) (hY : Y.length = 16) : ∃ C : List Int, C.length = 16 ∧ L14_1 (0, [.l Y, .i 0, .x X, .l Z, .l Y]) = some (0, [.x X, .l Z, .l C]) := by
  have ind := loopL_ind (m := 2) (f := f14_1) (fun s => ∃ (k : Nat) (C : List Int), k ≤ 16 ∧ C.length = 16 ∧ s = (0, [.l Y, .i (k : Int), .x X, .l Z, .l C])) (fun s => match s.2 with
    | [_, .i k, _, _, _] => 16 - k.toNat
    | _ => 0) (fun j r => j = 0 ∧ ∃ C : List Int, C.length = 16 ∧ r = [.x X, .l Z, .l C]) (fun s hs => ?_) (0, [.l Y, .i ((0 : Nat) : Int), .x X, .l Z, .l Y]) ⟨0, Y, Nat.zero_le _, hY, rfl⟩ (by show 16 - _ < _; omega)
  · obtain ⟨j, r, hL, rfl, C, h1, rfl⟩ := ind
    exact ⟨C, h1, hL⟩
  · obtain ⟨k, C, hk, h1, rfl⟩ := hs
    by_cases c : k < 16
    · have hx := get_some (l := Y) (i := k) (by omega)
      have hc := clamp_v (Y.getD k 0)
      have w2 : IntKind.i64.wrap ((k : Int) + 1) = ((k + 1 : Nat) : Int) := wrap_nat (n := k + 1) (by omega)
      refine .inl ⟨(0, [.l Y, .i ((k + 1 : Nat) : Int), .x X, .l Z, .l (C.set k (clamp31 (Y.getD k 0)))]), ?_, by show 0 < 2; omega, ⟨k + 1, _, by omega, by rw [List.length_set]; exact h1, rfl⟩, ?_⟩
      · generalize Y.getD k 0 = v at *
        generalize clamp31 v = u at *
        simp -implicitDefEqProofs only [f14_1, f14_1_0, asI_i, asN_n, asL_l, asB_b, asX_x, asE_nil, ↓Bool.cond_decide, Bool.cond_not, cond_true, cond_false, Bool.not_true, Bool.not_false, ↓reduceIte, Nat.zero_add, List.append_nil, Nat.le_refl, eq_self, true_and, and_true, not_true_eq_false, not_false_eq_true, ne_eq, decide_true, decide_false, decide_eq_true_eq, if_pos (show (k : Int) < 16 by omega), if_pos (show (0 : Int) ≤ k ∧ (k : Int) < 16 by omega), Int.toNat_natCast, hx, optK_some, hc, altK_0, if_pos (show k < C.length by omega), w2]
      · show 16 - ((k + 1 : Nat) : Int).toNat < 16 - (k : Int).toNat
        omega
    · obtain rfl : k = 16 := by omega
      refine .inr ⟨0, _, ?_, rfl, C, h1, rfl⟩
      simp -implicitDefEqProofs only [f14_1, f14_1_0, asI_i, asN_n, asL_l, asB_b, asX_x, asE_nil, ↓Bool.cond_decide, Bool.cond_not, cond_true, cond_false, Bool.not_true, Bool.not_false, ↓reduceIte, Nat.zero_add, List.append_nil, Nat.le_refl, eq_self, true_and, and_true, not_true_eq_false, not_false_eq_true, ne_eq, decide_true, decide_false, decide_eq_true_eq, if_neg (show ¬ ((16 : Nat) : Int) < 16 by omega)]
theorem cloop_1 (Z Y : List Int) (hY : Y.length = 16) : ∃ C : List Int, C.length = 16 ∧ L14_1 (1, [.l Y, .i 0, .l Z, .l Y]) = some (1, [.l Z, .l C]) := by
  have ind := loopL_ind (m := 2) (f := f14_1) (fun s => ∃ (k : Nat) (C : List Int), k ≤ 16 ∧ C.length = 16 ∧ s = (1, [.l Y, .i (k : Int), .l Z, .l C])) (fun s => match s.2 with
    | [_, .i k, _, _] => 16 - k.toNat
    | _ => 0) (fun j r => j = 1 ∧ ∃ C : List Int, C.length = 16 ∧ r = [.l Z, .l C]) (fun s hs => ?_) (1, [.l Y, .i ((0 : Nat) : Int), .l Z, .l Y]) ⟨0, Y, Nat.zero_le _, hY, rfl⟩ (by show 16 - _ < _; omega)
  · obtain ⟨j, r, hL, rfl, C, h1, rfl⟩ := ind
    exact ⟨C, h1, hL⟩
  · obtain ⟨k, C, hk, h1, rfl⟩ := hs
    by_cases c : k < 16
    · have hx := get_some (l := Y) (i := k) (by omega)
      have hc := clamp_v (Y.getD k 0)
      have w2 : IntKind.i64.wrap ((k : Int) + 1) = ((k + 1 : Nat) : Int) := wrap_nat (n := k + 1) (by omega)
      refine .inl ⟨(1, [.l Y, .i ((k + 1 : Nat) : Int), .l Z, .l (C.set k (clamp31 (Y.getD k 0)))]), ?_, by show 1 < 2; omega, ⟨k + 1, _, by omega, by rw [List.length_set]; exact h1, rfl⟩, ?_⟩
      · generalize Y.getD k 0 = v at *
        generalize clamp31 v = u at *
        simp -implicitDefEqProofs only [f14_1, f14_1_1, asI_i, asN_n, asL_l, asB_b, asX_x, asE_nil, ↓Bool.cond_decide, Bool.cond_not, cond_true, cond_false, Bool.not_true, Bool.not_false, ↓reduceIte, Nat.zero_add, List.append_nil, Nat.le_refl, eq_self, true_and, and_true, not_true_eq_false, not_false_eq_true, ne_eq, decide_true, decide_false, decide_eq_true_eq, if_pos (show (k : Int) < 16 by omega), if_pos (show (0 : Int) ≤ k ∧ (k : Int) < 16 by omega), Int.toNat_natCast, hx, optK_some, hc, altK_0, if_pos (show k < C.length by omega), w2]
      · show 16 - ((k + 1 : Nat) : Int).toNat < 16 - (k : Int).toNat
        omega
    · obtain rfl : k = 16 := by omega
      refine .inr ⟨1, _, ?_, rfl, C, h1, rfl⟩
      simp -implicitDefEqProofs only [f14_1, f14_1_1, asI_i, asN_n, asL_l, asB_b, asX_x, asE_nil, ↓Bool.cond_decide, Bool.cond_not, cond_true, cond_false, Bool.not_true, Bool.not_false, ↓reduceIte, Nat.zero_add, List.append_nil, Nat.le_refl, eq_self, true_and, and_true, not_true_eq_false, not_false_eq_true, ne_eq, decide_true, decide_false, decide_eq_true_eq, if_neg (show ¬ ((16 : Nat) : Int) < 16 by omega)]
theorem d16 : List.drop 16 ([0, 0, 0, 0, 0, 0, 0, 0, 0, 0, 0, 0, 0, 0, 0, 0] : List Int) = [] := rfl
theorem l16 : ([0, 0, 0, 0, 0, 0, 0, 0, 0, 0, 0, 0, 0, 0, 0, 0] : List Int).length = 16 := rfl
theorem spec_v {X : List NC} (h : okX X) : ∃ x : List Int, g14 (0, [.x X]) = some (0, [.l x]) ∧ x.length = 16 := by
  have hl := h.len
  obtain ⟨x, hx, h16⟩ := values_v (List.map NC.i (List.take 16 (List.drop 13 X))) (List.map NC.i (List.take 4 (List.drop 5 X))) (mapi_len (by omega)) (mapi_len (by omega))
  have hf := getN (l := X) (i := 4) (by omega)
  have hfew := h.few
  generalize X.getD 4 ⟨0, []⟩ = y at *
  rcases tloop X (y.l.length / 2) y.l [0, 0, 0, 0, 0, 0, 0, 0, 0, 0, 0, 0, 0, 0, 0, 0] x (by omega) hfew h16 with ⟨h0, hT⟩ | ⟨Y, hY, hT⟩
  · obtain ⟨C, hC, hL⟩ := cloop_0 X [0, 0, 0, 0, 0, 0, 0, 0, 0, 0, 0, 0, 0, 0, 0, 0] x h16
    have t1 : List.take 16 x = x := List.take_of_length_le (by omega)
    have t2 : List.take 16 C = C := List.take_of_length_le (by omega)
    refine ⟨C, ?_, hC⟩
    simp -implicitDefEqProofs only [g14, g14_0, asI_i, asN_n, asL_l, asB_b, asX_x, asE_nil, ↓Bool.cond_decide, Bool.cond_not, cond_true, cond_false, Bool.not_true, Bool.not_false, ↓reduceIte, Nat.zero_add, List.append_nil, Nat.le_refl, eq_self, true_and, and_true, not_true_eq_false, not_false_eq_true, ne_eq, decide_true, decide_false, decide_eq_true_eq, if_pos (show 29 ≤ X.length by omega), if_pos (show 9 ≤ X.length by omega), hx, altK_0, altK_1, h16, d16, hf, optK_some, hT, t1, hL, hC, t2, l16]
  · obtain ⟨C, hC, hL⟩ := cloop_1 [0, 0, 0, 0, 0, 0, 0, 0, 0, 0, 0, 0, 0, 0, 0, 0] Y hY
    have t1 : List.take 16 Y = Y := List.take_of_length_le (by omega)
    have t2 : List.take 16 C = C := List.take_of_length_le (by omega)
    refine ⟨C, ?_, hC⟩
    simp -implicitDefEqProofs only [g14, g14_0, asI_i, asN_n, asL_l, asB_b, asX_x, asE_nil, ↓Bool.cond_decide, Bool.cond_not, cond_true, cond_false, Bool.not_true, Bool.not_false, ↓reduceIte, Nat.zero_add, List.append_nil, Nat.le_refl, eq_self, true_and, and_true, not_true_eq_false, not_false_eq_true, ne_eq, decide_true, decide_false, decide_eq_true_eq, if_pos (show 29 ≤ X.length by omega), if_pos (show 9 ≤ X.length by omega), hx, altK_0, altK_1, h16, d16, hf, optK_some, hT, hY, t1, hL, hC, t2, l16]
/-! ### Veils -/
theorem dZ20 : List.drop 20 ([0, 0, 0, 0, 0, 0, 0, 0, 0, 0, 0, 0, 0, 0, 0, 0, 0, 0, 0, 0] : List Int) = [] := rfl
theorem dZ16 : List.drop 16 ([0, 0, 0, 0, 0, 0, 0, 0, 0, 0, 0, 0, 0, 0, 0, 0, 0, 0, 0, 0] : List Int) = [0, 0, 0, 0] := rfl
theorem lZ20 : ([0, 0, 0, 0, 0, 0, 0, 0, 0, 0, 0, 0, 0, 0, 0, 0, 0, 0, 0, 0] : List Int).length = 20 := rfl
theorem n1620 : (16 : Nat) + 4 = 20 := rfl
theorem n16l20 : (16 : Nat) ≤ 20 := by decide
theorem n20l21 : (20 : Nat) < 21 := by decide
theorem n2021 : (20 : Nat) ≤ 21 := by decide
theorem of_v {X : List NC} (h : okX X) : ∃ P : List Int, g15 (0, [.x X]) = some (0, [.l P]) ∧ P.length = 20 := by
  have hl := h.len
  obtain ⟨x, hx, h16⟩ := spec_v h
  have tX : List.take 29 X = X := List.take_of_length_le (by omega)
  have hg : (List.map NC.i (List.take 4 X)).length = 4 := by have := mapi_len (X := X) (a := 0) (n := 4) (by omega); simpa using this
  generalize hG : List.map NC.i (List.take 4 X) = G at *
  have t1 : List.take 16 (x ++ [0, 0, 0, 0]) = x := by rw [List.take_append_of_le_length (by omega), List.take_of_length_le (by omega)]
  have l1 : (x ++ [0, 0, 0, 0]).length = 20 := by rw [List.length_append, h16]; rfl
  have d1 : List.drop 20 (x ++ [0, 0, 0, 0]) = [] := drop_all (by omega)
  have l2 : (x ++ G).length = 20 := by rw [List.length_append, h16, hg]
  have t3 : List.take 20 (x ++ G) = x ++ G := List.take_of_length_le (by omega)
  refine ⟨x ++ G, ?_, l2⟩
  simp -implicitDefEqProofs only [g15, g15_0, asI_i, asN_n, asL_l, asB_b, asX_x, asE_nil, ↓Bool.cond_decide, Bool.cond_not, cond_true, cond_false, Bool.not_true, Bool.not_false, ↓reduceIte, Nat.zero_add, List.append_nil, Nat.le_refl, eq_self, true_and, and_true, not_true_eq_false, not_false_eq_true, ne_eq, decide_true, decide_false, decide_eq_true_eq, if_pos (show 29 ≤ X.length by omega), if_pos (show 4 ≤ X.length by omega), tX, hG, hx, altK_0, h16, hg, dZ16, dZ20, lZ20, t1, l1, d1, l2, n1620, n16l20, t3]
theorem good_v {X : List NC} (h : okX X) {V : List Int} (hV : V.length = 21) : ∃ P V' : List Int, g7 (0, [.x X, .l V]) = some (0, [.l P, .l V']) ∧ P.length = 20 ∧ V'.length = 21 := by
  have hl := h.len
  obtain ⟨P, hP, h20⟩ := of_v h
  have tX : List.take 29 X = X := List.take_of_length_le (by omega)
  have l1 : (P ++ List.drop 20 V).length = 21 := by rw [List.length_append, List.length_drop]; omega
  have l2 : ((P ++ List.drop 20 V).set 20 0).length = 21 := by rw [List.length_set]; exact l1
  have l3 : (List.take 20 ((P ++ List.drop 20 V).set 20 0)).length = 20 := by rw [List.length_take]; omega
  have t1 : List.take 20 (List.take 20 ((P ++ List.drop 20 V).set 20 0)) = List.take 20 ((P ++ List.drop 20 V).set 20 0) := List.take_of_length_le (by omega)
  refine ⟨List.take 20 ((P ++ List.drop 20 V).set 20 0), (P ++ List.drop 20 V).set 20 0, ?_, l3, l2⟩
  simp -implicitDefEqProofs only [g7, g7_0, asI_i, asN_n, asL_l, asB_b, asX_x, asE_nil, ↓Bool.cond_decide, Bool.cond_not, cond_true, cond_false, Bool.not_true, Bool.not_false, ↓reduceIte, Nat.zero_add, List.append_nil, Nat.le_refl, eq_self, true_and, and_true, not_true_eq_false, not_false_eq_true, ne_eq, decide_true, decide_false, decide_eq_true_eq, if_pos (show 29 ≤ X.length by omega), tX, hP, altK_0, h20, hV, l1, l2, l3, t1, n20l21, n2021, dZ20]
theorem cut_v (v k : Int) (hk : k ≤ 4) : ∃ y, g17 (0, [.i v, .i k]) = some (0, [.i y]) := by
  by_cases c0 : k < 0
  · exact ⟨0, by simp -implicitDefEqProofs only [g17, g17_0, asI_i, asN_n, asL_l, asB_b, asX_x, asE_nil, ↓Bool.cond_decide, Bool.cond_not, cond_true, cond_false, Bool.not_true, Bool.not_false, ↓reduceIte, Nat.zero_add, List.append_nil, Nat.le_refl, eq_self, true_and, and_true, not_true_eq_false, not_false_eq_true, ne_eq, decide_true, decide_false, decide_eq_true_eq, if_pos c0]⟩
  have key : ∀ Q : Int, shlI .i64 1 k = Q → Q ≠ 0 → ∃ y, g17 (0, [.i v, .i k]) = some (0, [.i y]) := fun Q h1 h2 => by
    exact ⟨IntKind.i64.wrap (Int.tdiv v Q), by simp -implicitDefEqProofs only [g17, g17_0, asI_i, asN_n, asL_l, asB_b, asX_x, asE_nil, ↓Bool.cond_decide, Bool.cond_not, cond_true, cond_false, Bool.not_true, Bool.not_false, ↓reduceIte, Nat.zero_add, List.append_nil, Nat.le_refl, eq_self, true_and, and_true, not_true_eq_false, not_false_eq_true, ne_eq, decide_true, decide_false, decide_eq_true_eq, if_neg c0, if_neg (show ¬ 62 < k by omega), h1, if_neg h2]⟩
  have : k = 0 ∨ k = 1 ∨ k = 2 ∨ k = 3 ∨ k = 4 := by omega
  rcases this with rfl | rfl | rfl | rfl | rfl
  · exact key 1 rfl (by decide)
  · exact key 2 rfl (by decide)
  · exact key 4 rfl (by decide)
  · exact key 8 rfl (by decide)
  · exact key 16 rfl (by decide)
theorem lloop (V Z W : List Int) (hV : V.length = 21) (hk : V.getD 20 0 ≤ 4) (hW : W.length = 20) : ∃ C : List Int, C.length = 20 ∧ L9_0 (0, [.i 0, .l V, .l Z, .l W]) = some (0, [.l V, .l Z, .l C]) := by
  have ind := loopL_ind (m := 1) (f := f9_0) (fun s => ∃ (k : Nat) (C : List Int), k ≤ 16 ∧ C.length = 20 ∧ s = (0, [.i (k : Int), .l V, .l Z, .l C])) (fun s => match s.2 with
    | [.i k, _, _, _] => 16 - k.toNat
    | _ => 0) (fun j r => j = 0 ∧ ∃ C : List Int, C.length = 20 ∧ r = [.l V, .l Z, .l C]) (fun s hs => ?_) (0, [.i ((0 : Nat) : Int), .l V, .l Z, .l W]) ⟨0, W, Nat.zero_le _, hW, rfl⟩ (by show 16 - _ < _; omega)
  · obtain ⟨j, r, hL, rfl, C, h1, rfl⟩ := ind
    exact ⟨C, h1, hL⟩
  · obtain ⟨k, C, hk', h1, rfl⟩ := hs
    by_cases c : k < 16
    · have hx := get_some (l := C) (i := k) (by omega)
      have hy := get_some (l := V) (i := 20) (by omega)
      obtain ⟨y, hc⟩ := cut_v (C.getD k 0) (V.getD 20 0) hk
      have w2 : IntKind.i64.wrap ((k : Int) + 1) = ((k + 1 : Nat) : Int) := wrap_nat (n := k + 1) (by omega)
      refine .inl ⟨(0, [.i ((k + 1 : Nat) : Int), .l V, .l Z, .l (C.set k y)]), ?_, by show 0 < 1; omega, ⟨k + 1, _, by omega, by rw [List.length_set]; exact h1, rfl⟩, ?_⟩
      · generalize C.getD k 0 = v at *
        generalize V.getD 20 0 = u at *
        simp -implicitDefEqProofs only [f9_0, f9_0_0, asI_i, asN_n, asL_l, asB_b, asX_x, asE_nil, ↓Bool.cond_decide, Bool.cond_not, cond_true, cond_false, Bool.not_true, Bool.not_false, ↓reduceIte, Nat.zero_add, List.append_nil, Nat.le_refl, eq_self, true_and, and_true, not_true_eq_false, not_false_eq_true, ne_eq, decide_true, decide_false, decide_eq_true_eq, if_pos (show (k : Int) < 16 by omega), if_pos (show (0 : Int) ≤ k ∧ (k : Int) < 16 by omega), Int.toNat_natCast, hx, hy, optK_some, hc, altK_0, if_pos (show k < C.length by omega), w2]
      · show 16 - ((k + 1 : Nat) : Int).toNat < 16 - (k : Int).toNat
        omega
    · obtain rfl : k = 16 := by omega
      refine .inr ⟨0, _, ?_, rfl, C, h1, rfl⟩
      simp -implicitDefEqProofs only [f9_0, f9_0_0, asI_i, asN_n, asL_l, asB_b, asX_x, asE_nil, ↓Bool.cond_decide, Bool.cond_not, cond_true, cond_false, Bool.not_true, Bool.not_false, ↓reduceIte, Nat.zero_add, List.append_nil, Nat.le_refl, eq_self, true_and, and_true, not_true_eq_false, not_false_eq_true, ne_eq, decide_true, decide_false, decide_eq_true_eq, if_neg (show ¬ ((16 : Nat) : Int) < 16 by omega)]
theorem lose_v {V : List Int} (hV : V.length = 21) : ∃ P V' : List Int, g9 (0, [.l V]) = some (0, [.l P, .l V']) ∧ P.length = 20 ∧ V'.length = 21 := by
  have hx := get_some (l := V) (i := 20) (by omega)
  have l1 : (V.set 20 (IntKind.i64.wrap (V.getD 20 0 + 1))).length = 21 := by rw [List.length_set]; exact hV
  have hy : (V.set 20 (IntKind.i64.wrap (V.getD 20 0 + 1)))[20]? = some (IntKind.i64.wrap (V.getD 20 0 + 1)) := List.getElem?_set_self (by omega)
  have hz : (V.set 20 (IntKind.i64.wrap (V.getD 20 0 + 1))).getD 20 0 = IntKind.i64.wrap (V.getD 20 0 + 1) := by rw [List.getD_eq_getElem?_getD, hy]; rfl
  generalize hu : IntKind.i64.wrap (V.getD 20 0 + 1) = u at *
  generalize V.getD 20 0 = x at *
  by_cases c : 4 < u
  · refine ⟨[0, 0, 0, 0, 0, 0, 0, 0, 0, 0, 0, 0, 0, 0, 0, 0, 0, 0, 0, 0], V.set 20 u, ?_, rfl, l1⟩
    simp -implicitDefEqProofs only [g9, g9_0, asI_i, asN_n, asL_l, asB_b, asX_x, asE_nil, ↓Bool.cond_decide, Bool.cond_not, cond_true, cond_false, Bool.not_true, Bool.not_false, ↓reduceIte, Nat.zero_add, List.append_nil, Nat.le_refl, eq_self, true_and, and_true, not_true_eq_false, not_false_eq_true, ne_eq, decide_true, decide_false, decide_eq_true_eq, hx, optK_some, hu, hV, n20l21, hy, if_pos c]
  · have t3 : (List.take 20 (V.set 20 u)).length = 20 := by rw [List.length_take]; omega
    obtain ⟨C, hC, hL⟩ := lloop (V.set 20 u) [0, 0, 0, 0, 0, 0, 0, 0, 0, 0, 0, 0, 0, 0, 0, 0, 0, 0, 0, 0] (List.take 20 (V.set 20 u)) l1 (by rw [hz]; omega) t3
    have t2 : List.take 20 C = C := List.take_of_length_le (by omega)
    refine ⟨C, V.set 20 u, ?_, hC, l1⟩
    simp -implicitDefEqProofs only [g9, g9_0, asI_i, asN_n, asL_l, asB_b, asX_x, asE_nil, ↓Bool.cond_decide, Bool.cond_not, cond_true, cond_false, Bool.not_true, Bool.not_false, ↓reduceIte, Nat.zero_add, List.append_nil, Nat.le_refl, eq_self, true_and, and_true, not_true_eq_false, not_false_eq_true, ne_eq, decide_true, decide_false, decide_eq_true_eq, hx, optK_some, hu, hV, n20l21, n2021, hy, if_neg c, l1, t3, dZ20, lZ20, hL, altK_0, hC, t2]
end Go.Proofs.Ythofmhnbncopjaa
