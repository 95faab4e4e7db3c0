/-
  The law of veils, its end: VeilPlays. Conditions: none.
-/
import Derived.Test.YthofmhnbncopjaaVeilP
namespace Go.Proofs.Ythofmhnbncopjaa
open Go Go.Sx V W
set_option maxRecDepth 100000
set_option linter.unusedVariables false
attribute [local simp] asI_i asB_b asL_l asN_n asS_s asE_nil altK_none altK_0 altK_1 altK_2 altK_3 optK_some optK_none Bool.cond_decide Bool.cond_not Int.toNat_natCast
set_option linter.unusedSimpArgs false
theorem law_loop (n : Nat) (c : List NC) (hn : n * 30 ≤ c.length) : ∃ h0 h1 : List Int, L4_1 (0, [.n n, .x c, .i 0, .i 0, .l [0, 0, 0, 0, 0, 0, 0, 0, 0, 0, 0, 0, 0, 0, 0, 0, 0, 0, 0, 0, 0], .l [0, 0, 0, 0, 0, 0, 0, 0, 0, 0, 0, 0, 0, 0, 0, 0, 0, 0, 0, 0]]) = some (0, [.l h0, .l h1]) := by
  have ind := loopL_ind (m := 1) (f := f4_1) (fun s => ∃ (k t : Nat) (P : List Int), k ≤ n ∧ k ≤ 40 ∧ t ≤ k ∧ P.length = 20 ∧ (∀ j, j < 16 → In31 (P.getD j 0)) ∧ s = (0, [.n n, .x c, .i (t : Int), .i (k : Int), .l (P ++ [(t : Int)]), .l P])) (fun s => match s.2 with
    | [_, _, _, .i k, _, _] => 40 - k.toNat
    | _ => 0) (fun j r => j = 0 ∧ ∃ h0 h1 : List Int, r = [.l h0, .l h1]) (fun s hs => ?_) (0, [.n n, .x c, .i ((0 : Nat) : Int), .i ((0 : Nat) : Int), .l ([0, 0, 0, 0, 0, 0, 0, 0, 0, 0, 0, 0, 0, 0, 0, 0, 0, 0, 0, 0] ++ [((0 : Nat) : Int)]), .l [0, 0, 0, 0, 0, 0, 0, 0, 0, 0, 0, 0, 0, 0, 0, 0, 0, 0, 0, 0]]) ⟨0, 0, [0, 0, 0, 0, 0, 0, 0, 0, 0, 0, 0, 0, 0, 0, 0, 0, 0, 0, 0, 0], Nat.zero_le _, by omega, Nat.le_refl _, rfl, fun j hj => ?_, rfl⟩ (by show 40 - _ < _; omega)
  · obtain ⟨j, r, hL, rfl, h0, h1, rfl⟩ := ind
    exact ⟨h0, h1, hL⟩
  · obtain ⟨k, t, P, hk, hk4, ht, hP, hb, rfl⟩ := hs
    by_cases q1 : k < n
    · by_cases q2 : k < 40
      · let C : Nat → NC := fun j => c.getD (k * 30 + j) ⟨0, []⟩
        have hC : ∀ j, j < 30 → c[k * 30 + j]? = some (C j) := fun j hj => by
          have hlt : k * 30 + j < c.length := by omega
          show _ = some (c.getD (k * 30 + j) ⟨0, []⟩)
          rw [List.getD_eq_getElem?_getD, List.getElem?_eq_getElem hlt]; rfl
        by_cases k4 : (C 0).i = 4
        · exact Or.inl ⟨_, step_4 n c C k t P hn q1 q2 hC (by omega) hP hb k4, by show 0 < 1; omega, ⟨k + 1, 0, [0, 0, 0, 0, 0, 0, 0, 0, 0, 0, 0, 0, 0, 0, 0, 0, 0, 0, 0, 0], by omega, by omega, by omega, rfl, fun j hj => zero_in j, rfl⟩, by show 40 - ((k + 1 : Nat) : Int).toNat < 40 - (k : Int).toNat; omega⟩
        by_cases k2 : (C 0).i = 2
        · exact Or.inl ⟨_, step_2 n c C k t P hn q1 q2 hC (by omega) hP hb k2, by show 0 < 1; omega, ⟨k + 1, t + 1, P, by omega, by omega, by omega, hP, hb, rfl⟩, by show 40 - ((k + 1 : Nat) : Int).toNat < 40 - (k : Int).toNat; omega⟩
        by_cases k3 : (C 0).i = 3
        · exact Or.inl ⟨_, step_3 n c C k t P hn q1 q2 hC (by omega) hP hb k3, by show 0 < 1; omega, ⟨k + 1, t + 1, P, by omega, by omega, by omega, hP, hb, rfl⟩, by show 40 - ((k + 1 : Nat) : Int).toNat < 40 - (k : Int).toNat; omega⟩
        obtain ⟨t', Q, h1, h2, h3, h4⟩ := step_0 n c C k t P hn q1 q2 hC (by omega) hP hb (eq_false k4) (eq_false k2) (eq_false k3)
        exact Or.inl ⟨_, h4, by show 0 < 1; omega, ⟨k + 1, t', Q, by omega, by omega, by omega, h2, h3, rfl⟩, by show 40 - ((k + 1 : Nat) : Int).toNat < 40 - (k : Int).toNat; omega⟩
      · refine Or.inr ⟨0, [.l (P ++ [(t : Int)]), .l P], ?_, rfl, _, _, rfl⟩
        have c1 : (k : Int) < (n : Int) := by omega
        have c2 : ¬ (k : Int) < 40 := by omega
        simp -implicitDefEqProofs only [f4_1, f4_1_0, asI_i, asN_n, asL_l, asB_b, asX_x, asE_nil, ↓Bool.cond_decide, Bool.cond_not, cond_true, cond_false, Bool.not_true, Bool.not_false, ↓reduceIte, Nat.zero_add, List.append_nil, Nat.le_refl, eq_self, true_and, and_true, not_true_eq_false, not_false_eq_true, ne_eq, decide_true, decide_false, decide_eq_true_eq, c1, c2]
    · refine Or.inr ⟨0, [.l (P ++ [(t : Int)]), .l P], ?_, rfl, _, _, rfl⟩
      have c1 : ¬ (k : Int) < (n : Int) := by omega
      simp -implicitDefEqProofs only [f4_1, f4_1_0, asI_i, asN_n, asL_l, asB_b, asX_x, asE_nil, ↓Bool.cond_decide, Bool.cond_not, cond_true, cond_false, Bool.not_true, Bool.not_false, ↓reduceIte, Nat.zero_add, List.append_nil, Nat.le_refl, eq_self, true_and, and_true, not_true_eq_false, not_false_eq_true, ne_eq, decide_true, decide_false, decide_eq_true_eq, c1]
  · exact zero_in j
theorem law (n : Nat) (c : List NC) (hn : n * 30 ≤ c.length) : g4 (0, [.n n, .x c]) = some (0, [.b true]) := by
  obtain ⟨h0, h1, hl⟩ := law_loop n c hn
  simp -implicitDefEqProofs only [g4, g4_0, asI_i, asN_n, asL_l, asB_b, asX_x, asE_nil, ↓Bool.cond_decide, Bool.cond_not, cond_true, cond_false, Bool.not_true, Bool.not_false, hl, altK_0, awakeL_ok]
theorem ev_plays (Q : List NC) (n : Nat) (hn : n * 30 ≤ Q.length) : ∃ d, evF tab d 4 [.ro (.nest ([.c (.int .i64), .c (.int .i64), .c (.int .i64), .c (.int .i64), .c (.int .i64), .si .i64 2, .c (.int .i64), .c (.int .i64), .c (.int .i64), .c (.int .i64), .c (.int .i64), .c (.int .i64), .c (.int .i64), .c (.int .i64), .c (.int .i64), .c (.int .i64), .c (.int .i64), .c (.int .i64), .c (.int .i64), .c (.int .i64), .c (.int .i64), .c (.int .i64), .c (.int .i64), .c (.int .i64), .c (.int .i64), .c (.int .i64), .c (.int .i64), .c (.int .i64), .c (.int .i64), .c (.int .i64)]) Q) n 30] [] = some (.bool true, [], []) := by
  exact ⟨_, (ok4 0).ret (i := 0) (ls := [.n n, .x Q]) (j := 0) (r := [.b true]) (law n Q hn) rfl rfl rfl rfl⟩
end Go.Proofs.Ythofmhnbncopjaa
