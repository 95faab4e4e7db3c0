/-
  The law of a row of frames, of which some are lost: VeilRows. Conditions: none.
-/
import Derived.Test.YthofmhnbncopjaaVrA
import Derived.Test.YthofmhnbncopjaaSx3
import Derived.KernelRfl
namespace Go.Proofs.Ythofmhnbncopjaa
open Go Go.Sx R
set_option maxRecDepth 100000
set_option linter.unusedVariables false
set_option linter.unusedSimpArgs false
attribute [local simp] asI_i asB_b asL_l asN_n asS_s asE_nil altK_none altK_0 altK_1 altK_2 altK_3 optK_some optK_none Bool.cond_decide Bool.cond_not Int.toNat_natCast
set_option linter.unusedSimpArgs false
theorem lose_all : ∃ fl : List Int → List Int × List Int, ∀ V, V.length = 21 → g9 (0, [.l V]) = some (0, [.l (fl V).1, .l (fl V).2]) ∧ (fl V).1.length = 20 ∧ (fl V).2.length = 21 := by
  have h : ∀ V : List Int, ∃ q : List Int × List Int, V.length = 21 → g9 (0, [.l V]) = some (0, [.l q.1, .l q.2]) ∧ q.1.length = 20 ∧ q.2.length = 21 := fun V => by
    by_cases hV : V.length = 21
    · obtain ⟨P, V', h⟩ := lose_v hV
      exact ⟨(P, V'), fun _ => h⟩
    · exact ⟨([], []), fun h => absurd h hV⟩
  exact ⟨fun V => (h V).choose, fun V => (h V).choose_spec⟩
theorem good_all : ∃ fg : List NC → List Int → List Int × List Int, ∀ X V, okX X → V.length = 21 → g7 (0, [.x X, .l V]) = some (0, [.l (fg X V).1, .l (fg X V).2]) ∧ (fg X V).1.length = 20 ∧ (fg X V).2.length = 21 := by
  have h : ∀ (X : List NC) (V : List Int), ∃ q : List Int × List Int, okX X → V.length = 21 → g7 (0, [.x X, .l V]) = some (0, [.l q.1, .l q.2]) ∧ q.1.length = 20 ∧ q.2.length = 21 := fun X V => by
    by_cases hX : okX X
    · by_cases hV : V.length = 21
      · obtain ⟨P, V', h⟩ := good_v hX hV
        exact ⟨(P, V'), fun _ _ => h⟩
      · exact ⟨([], []), fun _ h => absurd h hV⟩
    · exact ⟨([], []), fun h => absurd h hX⟩
  exact ⟨fun X V => (h X V).choose, fun X V => (h X V).choose_spec⟩
theorem right_all : ∃ rb : List NC → Bool, ∀ X, okX X → g13 (0, [.x X]) = some (0, [.b (rb X)]) := by
  have h : ∀ X : List NC, ∃ b, okX X → g13 (0, [.x X]) = some (0, [.b b]) := fun X => by
    by_cases hX : okX X
    · obtain ⟨b, h⟩ := right_v hX
      exact ⟨b, fun _ => h⟩
    · exact ⟨false, fun h => absurd h hX⟩
  exact ⟨fun X => (h X).choose, fun X => (h X).choose_spec⟩
/-! ### A frame of at most five tones -/
def cutX (X : List NC) : List NC := if 5 < (X.getD 4 ⟨0, []⟩).l.length / 2 then X.set 4 ⟨0, List.take 10 (X.getD 4 ⟨0, []⟩).l⟩ else X
theorem few_v {X : List NC} (hl : X.length = 29) : g8 (0, [.x X]) = some (0, [.x (cutX X)]) := by
  have hx := getN (l := X) (i := 4) (by omega)
  unfold cutX
  generalize X.getD 4 ⟨0, []⟩ = y at *
  have e10 : Int.toNat 5 * nat_lit 2 = 10 := rfl
  by_cases c : 5 < y.l.length / 2
  · have ci : (5 : Int) < ((y.l.length / 2 : Nat) : Int) := by omega
    have l10 : (List.take 10 y.l).length = 10 := by rw [List.length_take]; omega
    have ls : (X.set 4 ⟨0, List.take 10 y.l⟩).length = 29 := by rw [List.length_set]; exact hl
    rw [if_pos c]
    have tS : List.take 29 (X.set 4 ⟨0, List.take 10 y.l⟩) = X.set 4 ⟨0, List.take 10 y.l⟩ := List.take_of_length_le (by omega)
    simp -implicitDefEqProofs only [g8, g8_0, asI_i, asN_n, asL_l, asB_b, asX_x, asE_nil, ↓Bool.cond_decide, Bool.cond_not, cond_true, cond_false, Bool.not_true, Bool.not_false, ↓reduceIte, Nat.zero_add, List.append_nil, Nat.le_refl, eq_self, true_and, and_true, not_true_eq_false, not_false_eq_true, ne_eq, decide_true, decide_false, decide_eq_true_eq, hx, optK_some, if_pos ci, if_pos (show (0 : Int) ≤ 5 ∧ (5 : Int) ≤ ((y.l.length / 2 : Nat) : Int) by omega), if_pos (show 4 < X.length by omega), e10, l10, if_pos (show 0 < 2 ∧ True from ⟨by omega, trivial⟩), show (0 : Nat) < 2 from by omega, ls, tS, List.length_cons, List.length_nil, Nat.reduceAdd]
  · have ci : ¬ (5 : Int) < ((y.l.length / 2 : Nat) : Int) := by omega
    rw [if_neg c]
    have tX : List.take 29 X = X := List.take_of_length_le (by omega)
    simp -implicitDefEqProofs only [g8, g8_0, asI_i, asN_n, asL_l, asB_b, asX_x, asE_nil, ↓Bool.cond_decide, Bool.cond_not, cond_true, cond_false, Bool.not_true, Bool.not_false, ↓reduceIte, Nat.zero_add, List.append_nil, Nat.le_refl, eq_self, true_and, and_true, not_true_eq_false, not_false_eq_true, ne_eq, decide_true, decide_false, decide_eq_true_eq, hx, optK_some, if_neg ci, hl, tX, List.length_cons, List.length_nil, Nat.reduceAdd]
theorem cutX_ok {X : List NC} (hl : X.length = 29) (hf : ∀ j, j < 29 → j ≠ 4 → (X.getD j ⟨0, []⟩).l = []) (hm : (X.getD 4 ⟨0, []⟩).i = 0) : okX (cutX X) := by
  unfold cutX
  split
  · rename_i c
    have g4 : (X.set 4 ⟨0, List.take 10 (X.getD 4 ⟨0, []⟩).l⟩).getD 4 ⟨0, []⟩ = ⟨0, List.take 10 (X.getD 4 ⟨0, []⟩).l⟩ := by
      rw [List.getD_eq_getElem?_getD, List.getElem?_set_self (by omega)]; rfl
    refine ⟨by rw [List.length_set]; exact hl, fun j hj h4 => ?_, by rw [g4], ?_⟩
    · rw [List.getD_eq_getElem?_getD, List.getElem?_set_ne (Ne.symm h4), ← List.getD_eq_getElem?_getD]
      exact hf j hj h4
    · rw [g4]
      show (List.take 10 (X.getD 4 ⟨0, []⟩).l).length / 2 ≤ 5
      rw [List.length_take]
      omega
  · exact ⟨hl, hf, hm, by omega⟩
theorem nc_ext {x y : NC} (h1 : x.i = y.i) (h2 : x.l = y.l) : x = y := by
  cases x; cases y; simp only at h1 h2; rw [h1, h2]
theorem ptL_len {a b : Nat} {l : List Int} (h : a + b ≤ l.length) : (ptL a b l).length = a + 1 + b := by
  unfold ptL
  rw [List.length_append, List.length_map, List.length_take, List.length_cons, List.length_map, List.length_take, List.length_drop]
  omega
theorem ptL_norm {a b : Nat} {l : List Int} (h : a ≤ l.length) {j : Nat} {x : NC} (hx : (ptL a b l)[j]? = some x) : (j ≠ a → x.l = []) ∧ (j = a → x.i = 0) := by
  have h1 : ((l.take a).map fun n => (⟨n, []⟩ : NC)).length = a := by rw [List.length_map, List.length_take]; omega
  unfold ptL at hx
  by_cases c1 : j < a
  · rw [List.getElem?_append_left (by rw [h1]; exact c1), List.getElem?_map, Option.map_eq_some_iff] at hx
    obtain ⟨n, _, rfl⟩ := hx
    exact ⟨fun _ => rfl, fun e => by omega⟩
  · rw [List.getElem?_append_right (by rw [h1]; omega), h1] at hx
    by_cases c2 : j = a
    · subst c2
      rw [Nat.sub_self, List.getElem?_cons_zero] at hx
      cases hx
      exact ⟨fun e => absurd rfl e, fun _ => rfl⟩
    · obtain ⟨d, hd⟩ : ∃ d, j - a = d + 1 := ⟨j - a - 1, by omega⟩
      rw [hd, List.getElem?_cons_succ, List.getElem?_map, Option.map_eq_some_iff] at hx
      obtain ⟨n, _, rfl⟩ := hx
      exact ⟨fun _ => rfl, fun e => absurd e c2⟩
theorem pt_back {X : List NC} (h : okX X) : ptL 4 24 (ptE 4 24 X) = X := by
  have hl := h.len
  have hE : 4 + 24 ≤ (ptE 4 24 X).length := by
    unfold ptE
    rw [List.length_append, List.length_append, List.length_map, List.length_map, List.length_take, List.length_take, List.length_drop]
    omega
  refine List.ext_getElem? fun j => ?_
  have hlen : (ptL 4 24 (ptE 4 24 X)).length = 29 := ptL_len hE
  by_cases c : j < 29
  · have hx : (ptL 4 24 (ptE 4 24 X))[j]? = some ((ptL 4 24 (ptE 4 24 X)).getD j ⟨0, []⟩) := getN (by omega)
    obtain ⟨y, hy, e1, e2⟩ := ptE_get (a := 4) (b := 24) (by omega) hx
    obtain ⟨n1, n2⟩ := ptL_norm (a := 4) (by omega) hx
    have hyd : X.getD j ⟨0, []⟩ = y := by rw [List.getD_eq_getElem?_getD, hy]; rfl
    rw [hx, hy]
    congr 1
    by_cases e : j = 4
    · refine nc_ext ?_ (e2 e)
      rw [n2 e, ← hyd, e, h.mid]
    · refine nc_ext (e1 e) ?_
      rw [n1 e, ← hyd, h.flat j c e]
  · rw [List.getElem?_eq_none (by omega), List.getElem?_eq_none (by omega)]
/-! ### The veil's way along a row -/
def Rk (e : Nat → NC) (k : Nat) : List NC := (List.range k).map e
theorem Rk_len (e : Nat → NC) (k : Nat) : (Rk e k).length = k := by simp [Rk]
theorem Rk_next (e : Nat → NC) (k : Nat) : Rk e (k + 1) = Rk e k ++ [e k] := by simp [Rk, List.range_succ]
theorem Rk_get {e : Nat → NC} {N k : Nat} (h : k < N) : (Rk e N)[k]? = some (e k) := by simp [Rk, h]
def stp (fl : List Int → List Int × List Int) (fg : List NC → List Int → List Int × List Int) (x : NC) (V : List Int) : List Int × List Int := if x.i = 0 then fl V else fg (ptL 4 24 x.l) V
def rV (s : NC → List Int → List Int × List Int) (e : Nat → NC) : Nat → List Int
  | 0 => [0, 0, 0, 0, 0, 0, 0, 0, 0, 0, 0, 0, 0, 0, 0, 0, 0, 0, 0, 0, 0]
  | k + 1 => (s (e k) (rV s e k)).2
def rW (s : NC → List Int → List Int × List Int) (e : Nat → NC) : Nat → List Int
  | 0 => []
  | k + 1 => rW s e k ++ (s (e k) (rV s e k)).1
/-- May it stand in a row? -/
def okE (x : NC) : Prop := x.i = 0 ∨ (¬ x.i = 0 ∧ okX (ptL 4 24 x.l))
def okL (fl : List Int → List Int × List Int) : Prop := ∀ V, V.length = 21 → g9 (0, [.l V]) = some (0, [.l (fl V).1, .l (fl V).2]) ∧ (fl V).1.length = 20 ∧ (fl V).2.length = 21
def okG (fg : List NC → List Int → List Int × List Int) : Prop := ∀ X V, okX X → V.length = 21 → g7 (0, [.x X, .l V]) = some (0, [.l (fg X V).1, .l (fg X V).2]) ∧ (fg X V).1.length = 20 ∧ (fg X V).2.length = 21
theorem stp_len {fl : List Int → List Int × List Int} {fg : List NC → List Int → List Int × List Int} (hl : okL fl) (hg : okG fg) {x : NC} (hx : okE x) {V : List Int} (hV : V.length = 21) : (stp fl fg x V).1.length = 20 ∧ (stp fl fg x V).2.length = 21 := by
  unfold stp
  rcases hx with h | ⟨h, hX⟩
  · rw [if_pos h]; exact (hl V hV).2
  · rw [if_neg h]; exact (hg _ V hX hV).2
theorem rV_len {s : NC → List Int → List Int × List Int} {e : Nat → NC} (h : ∀ k V, V.length = 21 → (s (e k) V).1.length = 20 ∧ (s (e k) V).2.length = 21) : ∀ k, (rV s e k).length = 21 ∧ (rW s e k).length = k * 20
  | 0 => ⟨rfl, rfl⟩
  | k + 1 => by
    obtain ⟨h1, h2⟩ := rV_len h k
    obtain ⟨h3, h4⟩ := h k _ h1
    refine ⟨h4, ?_⟩
    show (rW s e k ++ _).length = _
    rw [List.length_append, h2, h3]
    omega
theorem tk20 {P : List Int} (h : P.length = 20) : List.take 20 P = P := List.take_of_length_le (by omega)

theorem rstep_0 {fl : List Int → List Int × List Int} {fg : List NC → List Int → List Int × List Int} (hl : okL fl) (hg : okG fg) (N k : Nat) (R : List NC) (x : NC) (V : List Int) (hk : k < N) (hR : R[k]? = some x) (hx : okE x) (hV : V.length = 21) (hN : N ≤ 20) : f16_0 (0, [.n N, .i (N : Int), .i (k : Int), .x R, .l V]) = some (2, [.n 1, .n N, .i (N : Int), .i ((k + 1 : Nat) : Int), .x R, .l (stp fl fg x V).2, .l (stp fl fg x V).1]) := by
  have w2 : IntKind.i64.wrap ((k : Int) + 1) = ((k + 1 : Nat) : Int) := wrap_nat (n := k + 1) (by omega)
  unfold stp
  rcases hx with h | ⟨h, hX⟩
  · rw [if_pos h]
    obtain ⟨h1, h2, h3⟩ := hl V hV
    generalize (fl V).1 = P at *
    generalize (fl V).2 = V' at *
    simp -implicitDefEqProofs only [f16_0, f16_0_0, asI_i, asN_n, asL_l, asB_b, asX_x, asE_nil, ↓Bool.cond_decide, Bool.cond_not, cond_true, cond_false, Bool.not_true, Bool.not_false, ↓reduceIte, Nat.zero_add, List.append_nil, Nat.le_refl, eq_self, true_and, and_true, not_true_eq_false, not_false_eq_true, ne_eq, decide_true, decide_false, decide_eq_true_eq, if_pos (show (k : Int) < (N : Int) by omega), if_pos (show (0 : Int) ≤ (k : Int) ∧ (k : Int) < (N : Int) by omega), Int.toNat_natCast, hR, optK_some, if_pos h, h1, altK_0, h2, dZ20, tk20 h2, w2]
  · rw [if_neg h]
    obtain ⟨h1, h2, h3⟩ := hg _ V hX hV
    have h29 := hX.len
    have tX : List.take 29 (ptL 4 24 x.l) = ptL 4 24 x.l := List.take_of_length_le (by omega)
    generalize (fg (ptL 4 24 x.l) V).1 = P at *
    generalize (fg (ptL 4 24 x.l) V).2 = V' at *
    generalize hPX : ptL 4 24 x.l = X at *
    simp -implicitDefEqProofs only [f16_0, f16_0_0, asI_i, asN_n, asL_l, asB_b, asX_x, asE_nil, ↓Bool.cond_decide, Bool.cond_not, cond_true, cond_false, Bool.not_true, Bool.not_false, ↓reduceIte, Nat.zero_add, List.append_nil, Nat.le_refl, eq_self, true_and, and_true, not_true_eq_false, not_false_eq_true, ne_eq, decide_true, decide_false, decide_eq_true_eq, if_pos (show (k : Int) < (N : Int) by omega), if_pos (show (0 : Int) ≤ (k : Int) ∧ (k : Int) < (N : Int) by omega), Int.toNat_natCast, hR, optK_some, if_neg h, hPX, h29, tX, h1, altK_0, h2, dZ20, tk20 h2, w2]
theorem rstep_2 {fl : List Int → List Int × List Int} {fg : List NC → List Int → List Int × List Int} (hl : okL fl) (hg : okG fg) (N k : Nat) (R : List NC) (x : NC) (V : List Int) (q : Nat) (W : List Int) (hq : q ≤ 20) (hW : W.length = q * 20) (hk : k < N) (hR : R[k]? = some x) (hx : okE x) (hV : V.length = 21) (hN : N ≤ 20) : f16_0 (2, [.n q, .n N, .i (N : Int), .i (k : Int), .x R, .l V, .l W]) = some (2, [.n (q + 1), .n N, .i (N : Int), .i ((k + 1 : Nat) : Int), .x R, .l (stp fl fg x V).2, .l (W ++ (stp fl fg x V).1)]) := by
  have w2 : IntKind.i64.wrap ((k : Int) + 1) = ((k + 1 : Nat) : Int) := wrap_nat (n := k + 1) (by omega)
  unfold stp
  rcases hx with h | ⟨h, hX⟩
  · rw [if_pos h]
    obtain ⟨h1, h2, h3⟩ := hl V hV
    generalize (fl V).1 = P at *
    generalize (fl V).2 = V' at *
    simp -implicitDefEqProofs only [f16_0, f16_0_2, asI_i, asN_n, asL_l, asB_b, asX_x, asE_nil, ↓Bool.cond_decide, Bool.cond_not, cond_true, cond_false, Bool.not_true, Bool.not_false, ↓reduceIte, Nat.zero_add, List.append_nil, Nat.le_refl, eq_self, true_and, and_true, not_true_eq_false, not_false_eq_true, ne_eq, decide_true, decide_false, decide_eq_true_eq, if_pos (show (k : Int) < (N : Int) by omega), if_pos (show (0 : Int) ≤ (k : Int) ∧ (k : Int) < (N : Int) by omega), Int.toNat_natCast, hR, optK_some, if_pos h, h1, altK_0, h2, dZ20, tk20 h2, w2, if_pos (show (q + 1) * 160 ≤ 70368744177664 by omega), if_pos hW]
  · rw [if_neg h]
    obtain ⟨h1, h2, h3⟩ := hg _ V hX hV
    have h29 := hX.len
    have tX : List.take 29 (ptL 4 24 x.l) = ptL 4 24 x.l := List.take_of_length_le (by omega)
    generalize (fg (ptL 4 24 x.l) V).1 = P at *
    generalize (fg (ptL 4 24 x.l) V).2 = V' at *
    generalize hPX : ptL 4 24 x.l = X at *
    simp -implicitDefEqProofs only [f16_0, f16_0_2, asI_i, asN_n, asL_l, asB_b, asX_x, asE_nil, ↓Bool.cond_decide, Bool.cond_not, cond_true, cond_false, Bool.not_true, Bool.not_false, ↓reduceIte, Nat.zero_add, List.append_nil, Nat.le_refl, eq_self, true_and, and_true, not_true_eq_false, not_false_eq_true, ne_eq, decide_true, decide_false, decide_eq_true_eq, if_pos (show (k : Int) < (N : Int) by omega), if_pos (show (0 : Int) ≤ (k : Int) ∧ (k : Int) < (N : Int) by omega), Int.toNat_natCast, hR, optK_some, if_neg h, hPX, h29, tX, h1, altK_0, h2, dZ20, tk20 h2, w2, if_pos (show (q + 1) * 160 ≤ 70368744177664 by omega), if_pos hW]
theorem row_ok {fl : List Int → List Int × List Int} {fg : List NC → List Int → List Int × List Int} (hl : okL fl) (hg : okG fg) (N : Nat) (e : Nat → NC) (he : ∀ k, okE (e k)) (hN : N ≤ 20) (h0 : 0 < N) :
    g16 (0, [.n N, .x (Rk e N)]) = some (1, [.n N, .x (Rk e N), .l (rW (stp fl fg) e N)]) := by
  have hlen := rV_len (s := stp fl fg) (e := e) fun k V hV => stp_len hl hg (he k) hV
  have hL : L16_0 (0, [.n N, .i (N : Int), .i 0, .x (Rk e N), .l [0, 0, 0, 0, 0, 0, 0, 0, 0, 0, 0, 0, 0, 0, 0, 0, 0, 0, 0, 0, 0]]) = some (2, [.n N, .x (Rk e N), .l (rV (stp fl fg) e N), .l (rW (stp fl fg) e N)]) := by
    refine loopL_run (m := 3) (f := f16_0) (fun k => if k = 0 then (0, [.n N, .i (N : Int), .i 0, .x (Rk e N), .l [0, 0, 0, 0, 0, 0, 0, 0, 0, 0, 0, 0, 0, 0, 0, 0, 0, 0, 0, 0, 0]]) else (2, [.n k, .n N, .i (N : Int), .i (k : Int), .x (Rk e N), .l (rV (stp fl fg) e k), .l (rW (stp fl fg) e k)])) N (fun k hk => ?_) ?_ (by omega)
    · rw [if_neg (Nat.succ_ne_zero k)]
      refine ⟨?_, by show 2 < 3; omega⟩
      have hR := Rk_get (e := e) hk
      by_cases c : k = 0
      · subst c
        rw [if_pos rfl]
        exact rstep_0 hl hg N 0 (Rk e N) (e 0) [0, 0, 0, 0, 0, 0, 0, 0, 0, 0, 0, 0, 0, 0, 0, 0, 0, 0, 0, 0, 0] hk hR (he 0) rfl hN
      · rw [if_neg c]
        obtain ⟨h1, h2⟩ := hlen k
        exact rstep_2 hl hg N k (Rk e N) (e k) (rV (stp fl fg) e k) k (rW (stp fl fg) e k) (by omega) h2 hk hR (he k) h1 hN
    · rw [if_neg (show ¬ N = 0 by omega)]
      simp -implicitDefEqProofs only [f16_0, f16_0_2, asI_i, asN_n, asL_l, asB_b, asX_x, asE_nil, ↓Bool.cond_decide, Bool.cond_not, cond_true, cond_false, Bool.not_true, Bool.not_false, ↓reduceIte, Nat.zero_add, List.append_nil, Nat.le_refl, eq_self, true_and, and_true, not_true_eq_false, not_false_eq_true, ne_eq, decide_true, decide_false, decide_eq_true_eq, if_neg (Int.lt_irrefl _)]
  simp -implicitDefEqProofs only [g16, g16_0, asI_i, asN_n, asL_l, asB_b, asX_x, asE_nil, ↓Bool.cond_decide, Bool.cond_not, cond_true, cond_false, Bool.not_true, Bool.not_false, ↓reduceIte, Nat.zero_add, List.append_nil, Nat.le_refl, eq_self, true_and, and_true, not_true_eq_false, not_false_eq_true, ne_eq, decide_true, decide_false, decide_eq_true_eq, hL, altK_2]
/-! ### The law's loop -/
def Xk (Q : List NC) (k : Nat) : List NC := cutX (List.take 29 (List.drop (k * 29) Q))
def gone (rb : List NC → Bool) (Q : List NC) (q : Nat) (B : List Int) (k : Nat) : Bool := (decide (k < q) && !decide (B.getD k 0 = 0)) || !rb (Xk Q k)
def ent (rb : List NC → Bool) (Q : List NC) (q : Nat) (B : List Int) (n k : Nat) : NC := if n ≤ k ∨ gone rb Q q B k then ⟨0, []⟩ else ⟨1, ptE 4 24 (Xk Q k)⟩
/-- What is known of the frames. -/
def okQ (Q : List NC) (n : Nat) : Prop := Q.length = n * 29 ∧ ∀ k, k < n → okX (Xk Q k)
theorem one_ne : ¬ ((1 : Int) = 0) := by decide

theorem lstep_0 {fl : List Int → List Int × List Int} {fg : List NC → List Int → List Int × List Int} {rb : List NC → Bool} (hl : okL fl) (hg : okG fg) (hr : ∀ X, okX X → g13 (0, [.x X]) = some (0, [.b (rb X)])) (n k q : Nat) (Q : List NC) (B V : List Int)
    (hk : k < n) (h20 : k < 20) (hQ : okQ Q n) (hB : B.length = q) (hV : V.length = 21) : f5_0 (0, [.n n, .x Q, .n q, .l B, .i (k : Int), .l V]) = some (if gone rb Q q B k then (1, [.n n, .x Q, .n q, .l B, .n 1, .n 1, .i ((k + 1 : Nat) : Int), .x [⟨0, []⟩], .l (fl V).1, .l (fl V).2]) else (1, [.n n, .x Q, .n q, .l B, .n 1, .n 1, .i ((k + 1 : Nat) : Int), .x [⟨1, ptE 4 24 (Xk Q k)⟩], .l (fg (Xk Q k) V).1, .l (fg (Xk Q k) V).2])) := by
  obtain ⟨hQl, hQk⟩ := hQ
  have w2 : IntKind.i64.wrap ((k : Int) + 1) = ((k + 1 : Nat) : Int) := wrap_nat (n := k + 1) (by omega)
  have hX := hQk k hk
  have l0 : (List.take 29 (List.drop (k * 29) Q)).length = 29 := by rw [List.length_take, List.length_drop]; omega
  have hF := few_v l0
  have hF : g8 (0, [.x (List.take 29 (List.drop (k * 29) Q))]) = some (0, [.x (Xk Q k)]) := hF
  unfold gone
  generalize Xk Q k = X at *
  have h29 := hX.len
  have tX : List.take 29 X = X := List.take_of_length_le (by omega)
  have hrx := hr X hX
  obtain ⟨l1, l2, l3⟩ := hl V hV
  obtain ⟨g1, g2, g3⟩ := hg X V hX hV
  generalize (fl V).1 = P at *
  generalize (fl V).2 = V1 at *
  generalize (fg X V).1 = G at *
  generalize (fg X V).2 = V2 at *
  generalize rb X = b at *
  have c1 : (k : Int) < (n : Int) := by omega
  have c2 : (k : Int) < 20 := by omega
  have c3 : (0 : Int) ≤ (k : Int) ∧ (k : Int) < (n : Int) := by omega
  have c4 : k * 29 + 29 ≤ Q.length := by omega
  have c5 : k * 29 % 29 = 0 := by omega
  by_cases cq : k < q
  · have hb := get_some (l := B) (i := k) (by omega)
    generalize B.getD k 0 = x at *
    by_cases cx : x = 0
    · cases b
      · rw [if_pos (by simp)]
        simp -implicitDefEqProofs only [f5_0, f5_0_0, asI_i, asN_n, asL_l, asB_b, asX_x, asE_nil, ↓Bool.cond_decide, Bool.cond_not, cond_true, cond_false, Bool.not_true, Bool.not_false, ↓reduceIte, Nat.zero_add, List.append_nil, Nat.le_refl, eq_self, true_and, and_true, not_true_eq_false, not_false_eq_true, ne_eq, decide_true, decide_false, decide_eq_true_eq, if_pos c1, if_pos c2, if_pos c3, Int.toNat_natCast, if_pos c4, if_pos c5, hF, altK_0, h29, if_pos (show (k : Int) < (q : Int) by omega), if_pos (show (0 : Int) ≤ (k : Int) ∧ (k : Int) < (q : Int) by omega), hb, optK_some, if_pos cx, tX, hrx, l1, l2, dZ20, tk20 l2, w2]
      · rw [if_neg (by simp [cx])]
        simp -implicitDefEqProofs only [f5_0, f5_0_0, asI_i, asN_n, asL_l, asB_b, asX_x, asE_nil, ↓Bool.cond_decide, Bool.cond_not, cond_true, cond_false, Bool.not_true, Bool.not_false, ↓reduceIte, Nat.zero_add, List.append_nil, Nat.le_refl, eq_self, true_and, and_true, not_true_eq_false, not_false_eq_true, ne_eq, decide_true, decide_false, decide_eq_true_eq, if_pos c1, if_pos c2, if_pos c3, Int.toNat_natCast, if_pos c4, if_pos c5, hF, altK_0, h29, if_pos (show (k : Int) < (q : Int) by omega), if_pos (show (0 : Int) ≤ (k : Int) ∧ (k : Int) < (q : Int) by omega), hb, optK_some, if_pos cx, tX, hrx, g1, g2, dZ20, tk20 g2, w2]
    · rw [if_pos (by simp [cq, cx])]
      simp -implicitDefEqProofs only [f5_0, f5_0_0, asI_i, asN_n, asL_l, asB_b, asX_x, asE_nil, ↓Bool.cond_decide, Bool.cond_not, cond_true, cond_false, Bool.not_true, Bool.not_false, ↓reduceIte, Nat.zero_add, List.append_nil, Nat.le_refl, eq_self, true_and, and_true, not_true_eq_false, not_false_eq_true, ne_eq, decide_true, decide_false, decide_eq_true_eq, if_pos c1, if_pos c2, if_pos c3, Int.toNat_natCast, if_pos c4, if_pos c5, hF, altK_0, h29, if_pos (show (k : Int) < (q : Int) by omega), if_pos (show (0 : Int) ≤ (k : Int) ∧ (k : Int) < (q : Int) by omega), hb, optK_some, if_neg cx, tX, l1, l2, dZ20, tk20 l2, w2]
  · cases b
    · rw [if_pos (by simp)]
      simp -implicitDefEqProofs only [f5_0, f5_0_0, asI_i, asN_n, asL_l, asB_b, asX_x, asE_nil, ↓Bool.cond_decide, Bool.cond_not, cond_true, cond_false, Bool.not_true, Bool.not_false, ↓reduceIte, Nat.zero_add, List.append_nil, Nat.le_refl, eq_self, true_and, and_true, not_true_eq_false, not_false_eq_true, ne_eq, decide_true, decide_false, decide_eq_true_eq, if_pos c1, if_pos c2, if_pos c3, Int.toNat_natCast, if_pos c4, if_pos c5, hF, altK_0, h29, if_neg (show ¬ (k : Int) < (q : Int) by omega), optK_some, tX, hrx, l1, l2, dZ20, tk20 l2, w2]
    · rw [if_neg (by simp [cq])]
      simp -implicitDefEqProofs only [f5_0, f5_0_0, asI_i, asN_n, asL_l, asB_b, asX_x, asE_nil, ↓Bool.cond_decide, Bool.cond_not, cond_true, cond_false, Bool.not_true, Bool.not_false, ↓reduceIte, Nat.zero_add, List.append_nil, Nat.le_refl, eq_self, true_and, and_true, not_true_eq_false, not_false_eq_true, ne_eq, decide_true, decide_false, decide_eq_true_eq, if_pos c1, if_pos c2, if_pos c3, Int.toNat_natCast, if_pos c4, if_pos c5, hF, altK_0, h29, if_neg (show ¬ (k : Int) < (q : Int) by omega), optK_some, tX, hrx, g1, g2, dZ20, tk20 g2, w2]
theorem lstep_1 {fl : List Int → List Int × List Int} {fg : List NC → List Int → List Int × List Int} {rb : List NC → Bool} (hl : okL fl) (hg : okG fg) (hr : ∀ X, okX X → g13 (0, [.x X]) = some (0, [.b (rb X)])) (n k q : Nat) (Q : List NC) (B V : List Int) (m : Nat) (R : List NC) (W : List Int) (hm : m ≤ 20) (hR : R.length = m) (hW : W.length = m * 20)
    (hk : k < n) (h20 : k < 20) (hQ : okQ Q n) (hB : B.length = q) (hV : V.length = 21) : f5_0 (1, [.n n, .x Q, .n q, .l B, .n m, .n m, .i (k : Int), .x R, .l W, .l V]) = some (if gone rb Q q B k then (1, [.n n, .x Q, .n q, .l B, .n (m + 1), .n (m + 1), .i ((k + 1 : Nat) : Int), .x (R ++ [⟨0, []⟩]), .l (W ++ (fl V).1), .l (fl V).2]) else (1, [.n n, .x Q, .n q, .l B, .n (m + 1), .n (m + 1), .i ((k + 1 : Nat) : Int), .x (R ++ [⟨1, ptE 4 24 (Xk Q k)⟩]), .l (W ++ (fg (Xk Q k) V).1), .l (fg (Xk Q k) V).2])) := by
  obtain ⟨hQl, hQk⟩ := hQ
  have w2 : IntKind.i64.wrap ((k : Int) + 1) = ((k + 1 : Nat) : Int) := wrap_nat (n := k + 1) (by omega)
  have hX := hQk k hk
  have l0 : (List.take 29 (List.drop (k * 29) Q)).length = 29 := by rw [List.length_take, List.length_drop]; omega
  have hF := few_v l0
  have hF : g8 (0, [.x (List.take 29 (List.drop (k * 29) Q))]) = some (0, [.x (Xk Q k)]) := hF
  unfold gone
  generalize Xk Q k = X at *
  have h29 := hX.len
  have tX : List.take 29 X = X := List.take_of_length_le (by omega)
  have hrx := hr X hX
  obtain ⟨l1, l2, l3⟩ := hl V hV
  obtain ⟨g1, g2, g3⟩ := hg X V hX hV
  generalize (fl V).1 = P at *
  generalize (fl V).2 = V1 at *
  generalize (fg X V).1 = G at *
  generalize (fg X V).2 = V2 at *
  generalize rb X = b at *
  have c1 : (k : Int) < (n : Int) := by omega
  have c2 : (k : Int) < 20 := by omega
  have c3 : (0 : Int) ≤ (k : Int) ∧ (k : Int) < (n : Int) := by omega
  have c4 : k * 29 + 29 ≤ Q.length := by omega
  have c5 : k * 29 % 29 = 0 := by omega
  by_cases cq : k < q
  · have hb := get_some (l := B) (i := k) (by omega)
    generalize B.getD k 0 = x at *
    by_cases cx : x = 0
    · cases b
      · rw [if_pos (by simp)]
        simp -implicitDefEqProofs only [f5_0, f5_0_1, asI_i, asN_n, asL_l, asB_b, asX_x, asE_nil, ↓Bool.cond_decide, Bool.cond_not, cond_true, cond_false, Bool.not_true, Bool.not_false, ↓reduceIte, Nat.zero_add, List.append_nil, Nat.le_refl, eq_self, true_and, and_true, not_true_eq_false, not_false_eq_true, ne_eq, decide_true, decide_false, decide_eq_true_eq, if_pos c1, if_pos c2, if_pos c3, Int.toNat_natCast, if_pos c4, if_pos c5, hF, altK_0, h29, if_pos (show (k : Int) < (q : Int) by omega), if_pos (show (0 : Int) ≤ (k : Int) ∧ (k : Int) < (q : Int) by omega), hb, optK_some, if_pos cx, tX, hrx, l1, l2, dZ20, tk20 l2, w2, if_pos (show (m + 1) * 160 ≤ 70368744177664 by omega), if_pos (show (m + 1) * 8 ≤ 70368744177664 by omega), if_pos (show R.length = m * 1 by omega), if_pos hW]
      · rw [if_neg (by simp [cx])]
        simp -implicitDefEqProofs only [f5_0, f5_0_1, asI_i, asN_n, asL_l, asB_b, asX_x, asE_nil, ↓Bool.cond_decide, Bool.cond_not, cond_true, cond_false, Bool.not_true, Bool.not_false, ↓reduceIte, Nat.zero_add, List.append_nil, Nat.le_refl, eq_self, true_and, and_true, not_true_eq_false, not_false_eq_true, ne_eq, decide_true, decide_false, decide_eq_true_eq, if_pos c1, if_pos c2, if_pos c3, Int.toNat_natCast, if_pos c4, if_pos c5, hF, altK_0, h29, if_pos (show (k : Int) < (q : Int) by omega), if_pos (show (0 : Int) ≤ (k : Int) ∧ (k : Int) < (q : Int) by omega), hb, optK_some, if_pos cx, tX, hrx, g1, g2, dZ20, tk20 g2, w2, if_pos (show (m + 1) * 160 ≤ 70368744177664 by omega), if_pos (show (m + 1) * 8 ≤ 70368744177664 by omega), if_pos (show R.length = m * 1 by omega), if_pos hW]
    · rw [if_pos (by simp [cq, cx])]
      simp -implicitDefEqProofs only [f5_0, f5_0_1, asI_i, asN_n, asL_l, asB_b, asX_x, asE_nil, ↓Bool.cond_decide, Bool.cond_not, cond_true, cond_false, Bool.not_true, Bool.not_false, ↓reduceIte, Nat.zero_add, List.append_nil, Nat.le_refl, eq_self, true_and, and_true, not_true_eq_false, not_false_eq_true, ne_eq, decide_true, decide_false, decide_eq_true_eq, if_pos c1, if_pos c2, if_pos c3, Int.toNat_natCast, if_pos c4, if_pos c5, hF, altK_0, h29, if_pos (show (k : Int) < (q : Int) by omega), if_pos (show (0 : Int) ≤ (k : Int) ∧ (k : Int) < (q : Int) by omega), hb, optK_some, if_neg cx, tX, l1, l2, dZ20, tk20 l2, w2, if_pos (show (m + 1) * 160 ≤ 70368744177664 by omega), if_pos (show (m + 1) * 8 ≤ 70368744177664 by omega), if_pos (show R.length = m * 1 by omega), if_pos hW]
  · cases b
    · rw [if_pos (by simp)]
      simp -implicitDefEqProofs only [f5_0, f5_0_1, asI_i, asN_n, asL_l, asB_b, asX_x, asE_nil, ↓Bool.cond_decide, Bool.cond_not, cond_true, cond_false, Bool.not_true, Bool.not_false, ↓reduceIte, Nat.zero_add, List.append_nil, Nat.le_refl, eq_self, true_and, and_true, not_true_eq_false, not_false_eq_true, ne_eq, decide_true, decide_false, decide_eq_true_eq, if_pos c1, if_pos c2, if_pos c3, Int.toNat_natCast, if_pos c4, if_pos c5, hF, altK_0, h29, if_neg (show ¬ (k : Int) < (q : Int) by omega), optK_some, tX, hrx, l1, l2, dZ20, tk20 l2, w2, if_pos (show (m + 1) * 160 ≤ 70368744177664 by omega), if_pos (show (m + 1) * 8 ≤ 70368744177664 by omega), if_pos (show R.length = m * 1 by omega), if_pos hW]
    · rw [if_neg (by simp [cq])]
      simp -implicitDefEqProofs only [f5_0, f5_0_1, asI_i, asN_n, asL_l, asB_b, asX_x, asE_nil, ↓Bool.cond_decide, Bool.cond_not, cond_true, cond_false, Bool.not_true, Bool.not_false, ↓reduceIte, Nat.zero_add, List.append_nil, Nat.le_refl, eq_self, true_and, and_true, not_true_eq_false, not_false_eq_true, ne_eq, decide_true, decide_false, decide_eq_true_eq, if_pos c1, if_pos c2, if_pos c3, Int.toNat_natCast, if_pos c4, if_pos c5, hF, altK_0, h29, if_neg (show ¬ (k : Int) < (q : Int) by omega), optK_some, tX, hrx, g1, g2, dZ20, tk20 g2, w2, if_pos (show (m + 1) * 160 ≤ 70368744177664 by omega), if_pos (show (m + 1) * 8 ≤ 70368744177664 by omega), if_pos (show R.length = m * 1 by omega), if_pos hW]
theorem lloop_ok {fl : List Int → List Int × List Int} {fg : List NC → List Int → List Int × List Int} {rb : List NC → Bool} (hl : okL fl) (hg : okG fg) (hr : ∀ X, okX X → g13 (0, [.x X]) = some (0, [.b (rb X)])) (n N q : Nat) (Q : List NC) (B : List Int) (hN : N = min 20 n) (h0 : 0 < N) (hQ : okQ Q n) (hB : B.length = q)
    (he : ∀ k, okE (ent rb Q q B n k)) : L5_0 (0, [.n n, .x Q, .n q, .l B, .i 0, .l [0, 0, 0, 0, 0, 0, 0, 0, 0, 0, 0, 0, 0, 0, 0, 0, 0, 0, 0, 0, 0]]) = some (1, [.n N, .n N, .x (Rk (ent rb Q q B n) N), .l (rW (stp fl fg) (ent rb Q q B n) N), .l (rV (stp fl fg) (ent rb Q q B n) N)]) := by
  have hlen := rV_len (s := stp fl fg) (e := ent rb Q q B n) fun k V hV => stp_len hl hg (he k) hV
  have hstp : ∀ k V, k < n → ent rb Q q B n k = (if gone rb Q q B k then ⟨0, []⟩ else ⟨1, ptE 4 24 (Xk Q k)⟩) ∧ stp fl fg (ent rb Q q B n k) V = if gone rb Q q B k then fl V else fg (Xk Q k) V := fun k V hk => by
    unfold ent stp
    by_cases c : gone rb Q q B k
    · rw [if_pos (Or.inr c), if_pos c, if_pos c]
      exact ⟨rfl, if_pos rfl⟩
    · rw [if_neg (show ¬ (n ≤ k ∨ gone rb Q q B k) from fun z => z.elim (fun y => by omega) c), if_neg c, if_neg c]
      refine ⟨rfl, ?_⟩
      rw [if_neg one_ne, pt_back (hQ.2 k hk)]
  refine loopL_run (m := 2) (f := f5_0) (fun k => if k = 0 then (0, [.n n, .x Q, .n q, .l B, .i 0, .l [0, 0, 0, 0, 0, 0, 0, 0, 0, 0, 0, 0, 0, 0, 0, 0, 0, 0, 0, 0, 0]]) else (1, [.n n, .x Q, .n q, .l B, .n k, .n k, .i (k : Int), .x (Rk (ent rb Q q B n) k), .l (rW (stp fl fg) (ent rb Q q B n) k), .l (rV (stp fl fg) (ent rb Q q B n) k)])) N (fun k hk => ?_) ?_ (by omega)
  · rw [if_neg (Nat.succ_ne_zero k), Rk_next]
    refine ⟨?_, by show 1 < 2; omega⟩
    have e1 : rW (stp fl fg) (ent rb Q q B n) (k + 1) = rW (stp fl fg) (ent rb Q q B n) k ++ (stp fl fg (ent rb Q q B n k) (rV (stp fl fg) (ent rb Q q B n) k)).1 := rfl
    have e2 : rV (stp fl fg) (ent rb Q q B n) (k + 1) = (stp fl fg (ent rb Q q B n k) (rV (stp fl fg) (ent rb Q q B n) k)).2 := rfl
    obtain ⟨s1, s2⟩ := hstp k (rV (stp fl fg) (ent rb Q q B n) k) (by omega)
    rw [e1, e2, s2, s1]
    by_cases c : k = 0
    · subst c
      rw [if_pos rfl, show Rk (ent rb Q q B n) 0 = [] from rfl, show rW (stp fl fg) (ent rb Q q B n) 0 = [] from rfl, List.nil_append, List.nil_append, show rV (stp fl fg) (ent rb Q q B n) 0 = [0, 0, 0, 0, 0, 0, 0, 0, 0, 0, 0, 0, 0, 0, 0, 0, 0, 0, 0, 0, 0] from rfl]
      refine (lstep_0 hl hg hr n 0 q Q B [0, 0, 0, 0, 0, 0, 0, 0, 0, 0, 0, 0, 0, 0, 0, 0, 0, 0, 0, 0, 0] (by omega) (by omega) hQ hB rfl).trans ?_
      by_cases g : gone rb Q q B 0
      · rw [if_pos g, if_pos g, if_pos g]
      · rw [if_neg g, if_neg g, if_neg g]
    · obtain ⟨h1, h2⟩ := hlen k
      rw [if_neg c]
      refine (lstep_1 hl hg hr n k q Q B (rV (stp fl fg) (ent rb Q q B n) k) k (Rk (ent rb Q q B n) k) (rW (stp fl fg) (ent rb Q q B n) k) (by omega) (Rk_len _ _) h2 (by omega) (by omega) hQ hB h1).trans ?_
      by_cases g : gone rb Q q B k
      · rw [if_pos g, if_pos g, if_pos g]
      · rw [if_neg g, if_neg g, if_neg g]
  · rw [if_neg (show ¬ N = 0 by omega)]
    by_cases c : (N : Int) < (n : Int)
    · simp -implicitDefEqProofs only [f5_0, f5_0_1, asI_i, asN_n, asL_l, asB_b, asX_x, asE_nil, ↓Bool.cond_decide, Bool.cond_not, cond_true, cond_false, Bool.not_true, Bool.not_false, ↓reduceIte, Nat.zero_add, List.append_nil, Nat.le_refl, eq_self, true_and, and_true, not_true_eq_false, not_false_eq_true, ne_eq, decide_true, decide_false, decide_eq_true_eq, if_pos c, if_neg (show ¬ (N : Int) < 20 by omega)]
    · simp -implicitDefEqProofs only [f5_0, f5_0_1, asI_i, asN_n, asL_l, asB_b, asX_x, asE_nil, ↓Bool.cond_decide, Bool.cond_not, cond_true, cond_false, Bool.not_true, Bool.not_false, ↓reduceIte, Nat.zero_add, List.append_nil, Nat.le_refl, eq_self, true_and, and_true, not_true_eq_false, not_false_eq_true, ne_eq, decide_true, decide_false, decide_eq_true_eq, if_neg c]
theorem same_ok (N : Nat) (R : List NC) (W V : List Int) (hN : N ≤ 20) (hW : W.length = N * 20) : L5_1 (2, [.n N, .n N, .i 0, .x R, .l W, .l V, .l W]) = some (2, [.x R, .l W, .l V, .l W]) := by
  refine loopL_run (m := 3) (f := f5_1) (fun k => (2, [.n N, .n N, .i (k : Int), .x R, .l W, .l V, .l W])) N (fun k hk => ⟨?_, by show 2 < 3; omega⟩) ?_ (by omega)
  · have w2 : IntKind.i64.wrap ((k : Int) + 1) = ((k + 1 : Nat) : Int) := wrap_nat (n := k + 1) (by omega)
    have l0 : (List.take 20 (List.drop (k * 20) W)).length = 20 := by rw [List.length_take, List.length_drop]; omega
    simp -implicitDefEqProofs only [f5_1, f5_1_2, asI_i, asN_n, asL_l, asB_b, asX_x, asE_nil, ↓Bool.cond_decide, Bool.cond_not, cond_true, cond_false, Bool.not_true, Bool.not_false, ↓reduceIte, Nat.zero_add, List.append_nil, Nat.le_refl, eq_self, true_and, and_true, not_true_eq_false, not_false_eq_true, ne_eq, decide_true, decide_false, decide_eq_true_eq, if_pos (show (k : Int) < (N : Int) by omega), if_pos (show (0 : Int) ≤ (k : Int) ∧ (k : Int) < (N : Int) by omega), Int.toNat_natCast, if_pos (show k * 20 + 20 ≤ W.length by omega), l0, w2]
  · simp -implicitDefEqProofs only [f5_1, f5_1_2, asI_i, asN_n, asL_l, asB_b, asX_x, asE_nil, ↓Bool.cond_decide, Bool.cond_not, cond_true, cond_false, Bool.not_true, Bool.not_false, ↓reduceIte, Nat.zero_add, List.append_nil, Nat.le_refl, eq_self, true_and, and_true, not_true_eq_false, not_false_eq_true, ne_eq, decide_true, decide_false, decide_eq_true_eq, if_neg (Int.lt_irrefl _)]
theorem core (n q : Nat) (Q : List NC) (B : List Int) (hQ : okQ Q n) (hB : B.length = q) : g5 (0, [.n n, .x Q, .n q, .l B]) = some (0, [.b true]) := by
  obtain ⟨fl, hl⟩ := lose_all
  obtain ⟨fg, hg⟩ := good_all
  obtain ⟨rb, hr⟩ := right_all
  have hl : okL fl := hl
  have hg : okG fg := hg
  have he : ∀ k, okE (ent rb Q q B n k) := fun k => by
    unfold ent
    split
    · exact .inl rfl
    · rename_i h
      refine .inr ⟨one_ne, ?_⟩
      have hX := hQ.2 k (by
        refine Nat.lt_of_not_le fun z => h (Or.inl z))
      rw [pt_back hX]
      exact hX
  by_cases h0 : n = 0
  · subst h0
    have a1 : L5_0 (0, [.n 0, .x Q, .n q, .l B, .i 0, .l [0, 0, 0, 0, 0, 0, 0, 0, 0, 0, 0, 0, 0, 0, 0, 0, 0, 0, 0, 0, 0]]) = some (0, [.l [0, 0, 0, 0, 0, 0, 0, 0, 0, 0, 0, 0, 0, 0, 0, 0, 0, 0, 0, 0, 0]]) := by kernel_rfl
    have a2 : g16 (1, []) = some (2, []) := by kernel_rfl
    have a3 : ∀ V, L5_1 (0, [.i 0, .l V]) = some (0, [.l V]) := fun V => by kernel_rfl
    simp -implicitDefEqProofs only [g5, g5_0, asI_i, asN_n, asL_l, asB_b, asX_x, asE_nil, ↓Bool.cond_decide, Bool.cond_not, cond_true, cond_false, Bool.not_true, Bool.not_false, ↓reduceIte, Nat.zero_add, List.append_nil, Nat.le_refl, eq_self, true_and, and_true, not_true_eq_false, not_false_eq_true, ne_eq, decide_true, decide_false, decide_eq_true_eq, a1, a2, a3, altK_0, altK_2, awakeL_ok]
  · have hlo := lloop_ok hl hg hr n (min 20 n) q Q B rfl (by omega) hQ hB he
    have hro := row_ok hl hg (min 20 n) (ent rb Q q B n) he (by omega) (by omega)
    have hW := (rV_len (s := stp fl fg) (e := ent rb Q q B n) fun k V hV => stp_len hl hg (he k) hV) (min 20 n)
    generalize hN : min 20 n = N at *
    have hsa := same_ok N (Rk (ent rb Q q B n) N) (rW (stp fl fg) (ent rb Q q B n) N) (rV (stp fl fg) (ent rb Q q B n) N) (by omega) hW.2
    generalize Rk (ent rb Q q B n) N = R at *
    generalize rW (stp fl fg) (ent rb Q q B n) N = W at *
    generalize rV (stp fl fg) (ent rb Q q B n) N = V at *
    simp -implicitDefEqProofs only [g5, g5_0, asI_i, asN_n, asL_l, asB_b, asX_x, asE_nil, ↓Bool.cond_decide, Bool.cond_not, cond_true, cond_false, Bool.not_true, Bool.not_false, ↓reduceIte, Nat.zero_add, List.append_nil, Nat.le_refl, eq_self, true_and, and_true, not_true_eq_false, not_false_eq_true, ne_eq, decide_true, decide_false, decide_eq_true_eq, hlo, hro, hsa, altK_0, altK_1, altK_2, awakeL_ok]
theorem okQ_of {Q : List NC} {n : Nat} (hl : Q.length = n * 29) (hw : ∀ j, j < Q.length → (kindN (ptK 4 2 24) j).wf (Q.getD j ⟨0, []⟩)) : okQ Q n := by
  refine ⟨hl, fun k hk => ?_⟩
  have l0 : (List.take 29 (List.drop (k * 29) Q)).length = 29 := by rw [List.length_take, List.length_drop]; omega
  have hget : ∀ j, j < 29 → (List.take 29 (List.drop (k * 29) Q)).getD j ⟨0, []⟩ = Q.getD (k * 29 + j) ⟨0, []⟩ := fun j hj => by
    rw [List.getD_eq_getElem?_getD, List.getElem?_take_of_lt hj, List.getElem?_drop, ← List.getD_eq_getElem?_getD]
  have hkind : ∀ j, kindN (ptK 4 2 24) (k * 29 + j) = kindN (ptK 4 2 24) j := fun j => by
    unfold kindN
    rw [show (ptK 4 2 24).length = 29 from rfl, show (k * 29 + j) % 29 = j % 29 by omega]
  refine cutX_ok l0 (fun j hj h4 => ?_) ?_
  · rw [hget j hj]
    have := hw (k * 29 + j) (by omega)
    rw [hkind, ptK_at.2 (by omega) h4] at this
    exact this.2
  · rw [hget 4 (by omega)]
    have := hw (k * 29 + 4) (by omega)
    rw [hkind, ptK_at.1 rfl] at this
    exact this.2.2.2
theorem ev_rows (n q : Nat) (Q : List NC) (B : List Int) (hl : Q.length = n * 29) (hw : ∀ j, j < Q.length → (kindN (ptK 4 2 24) j).wf (Q.getD j ⟨0, []⟩)) (hB : B.length = q) : ∃ d, evF tab d 5 [.ro (.nest (ptK 4 2 24) Q) n 29, .ro (.mix [.bool] B) q 1] [] = some (.bool true, [], []) :=
  ⟨_, (ok5 0).ret (i := 0) (ls := [.n n, .x Q, .n q, .l B]) (j := 0) (r := [.b true]) (core n q Q B (okQ_of hl hw) hB) rfl rfl rfl rfl⟩
end Go.Proofs.Ythofmhnbncopjaa
