/-
  The law of what filters one behind the other tell of any samples: 1 of them. Conditions: none.
-/
import Derived.Test.YtgjmlenokdggoaaFilts
import Derived.Test.YtgjmlenokdggoaaDecQ1
namespace Go.Proofs.Ytgjmlenokdggoaa.Q1
open Go Go.Sx P
set_option maxRecDepth 100000
set_option linter.unusedVariables false
attribute [local simp] asI_i asB_b asL_l asN_n asS_s asE_nil altK_none altK_0 altK_1 altK_2 altK_3 optK_some optK_none Bool.cond_decide Bool.cond_not Int.toNat_natCast
set_option linter.unusedSimpArgs false
theorem len5 (c : C5) : (L5 c).length = 5 := rfl
theorem tk5 (c : C5) : List.take 5 (L5 c) = L5 c := rfl
theorem dr5 : List.drop 5 ([0, 0, 0, 0, 0] : List Int) = [] := rfl
theorem dr9 (c : C5) : L5 c ++ List.drop 5 ([0, 0, 0, 0, 0, 0, 0, 0, 0] : List Int) = F9 c z4 := rfl
theorem ry_0 (c : Nat → C5) (t : List Int) (hl : 5 ≤ t.length) (e0 : List.take 5 t = L5 (c 0)) (hc : Right (c 0)) : f12_0 (0, [.l t]) = some (1, [.l t, .l (F9 (c 0) z4)]) := by
  simp -implicitDefEqProofs only [f12_0, f12_0_0, asI_i, asN_n, asL_l, asB_b, asE_nil, Bool.cond_decide, len5, tk5, dr5, dr9, List.append_nil, if_true, Nat.zero_add, Nat.le_refl, Nat.reduceLeDiff, if_pos (show 5 ≤ t.length by omega), e0, new_yes (c 0) _ rfl hc, altK_0]
theorem rn_0 (c : Nat → C5) (t : List Int) (hl : 5 ≤ t.length) (e0 : List.take 5 t = L5 (c 0)) (hc : ¬ Right (c 0)) : f12_0 (0, [.l t]) = some (2 + 0, [.l (L5 (c 0))]) := by
  simp -implicitDefEqProofs only [f12_0, f12_0_0, asI_i, asN_n, asL_l, asB_b, asE_nil, Bool.cond_decide, len5, tk5, dr5, dr9, List.append_nil, if_true, Nat.zero_add, Nat.le_refl, Nat.reduceLeDiff, if_pos (show 5 ≤ t.length by omega), e0, new_no (c 0) _ rfl hc, altK_1, Nat.reduceAdd]
theorem re_ (t : List Int) (h0 : List Int) : f12_0 (1, [.l t, .l h0]) = some (2 + 1, [.l h0]) := rfl
theorem row_yes (c : Nat → C5) (t : List Int) (hl : 5 ≤ t.length) (e0 : List.take 5 t = L5 (c 0)) (r0 : Right (c 0)) : g12 (0, [.l t]) = some (1, [.l (F9 (c 0) z4)]) := by
  have hL : L12_0 (0, [.l t]) = some (1, [.l (F9 (c 0) z4)]) := Path.run (m := 2) (f := f12_0) (.step (ry_0 c t hl e0 r0) rfl (.fin (re_ t _))) rfl
  simp -implicitDefEqProofs only [g12, g12_0, asI_i, asN_n, asL_l, asB_b, asE_nil, Bool.cond_decide, hL, altK_1]
theorem row_no_0 (c : Nat → C5) (t : List Int) (hl : 5 ≤ t.length) (e0 : List.take 5 t = L5 (c 0)) (n0 : ¬ Right (c 0)) : g12 (0, [.l t]) = some (0, []) := by
  have hL : L12_0 (0, [.l t]) = some (0, [.l (L5 (c 0))]) := Path.run (m := 2) (f := f12_0) (.fin (rn_0 c t hl e0 n0)) rfl
  simp -implicitDefEqProofs only [g12, g12_0, asI_i, asN_n, asL_l, asB_b, asE_nil, Bool.cond_decide, hL, altK_0]
theorem cy_0 (c : Nat → C5) (hc : Right (c 0)) {s : Q4} (hs : s.ok) (v : Int) : f13_0 (0, [.i v, .l (F9 (c 0) s)]) = some (1, [.i (outV (c 0) s v), .l (F9 (c 0) (nxt (c 0) s v))]) := by
  simp -implicitDefEqProofs only [f13_0, f13_0_0, asI_i, asN_n, asL_l, asB_b, asE_nil, Bool.cond_decide, next_ok (c 0) hc hs v, altK_0]
theorem ce_ (v : Int) (h0 : List Int) : f13_0 (1, [.i v, .l h0]) = some (2 + 0, [.i v, .l h0]) := rfl
theorem chain_ok (c : Nat → C5) (r0 : Right (c 0)) (s : Nat → Q4) (hs : ∀ i, (s i).ok) (v : Int) : g13 (0, [.i v, .l (F9 (c 0) (s 0))]) = some (0, [.i (vin c s v 1), .l (F9 (c 0) (nxt (c 0) (s 0) (vin c s v 0)))]) := by
  have hL : L13_0 (0, [.i v, .l (F9 (c 0) (s 0))]) = some (0, [.i (vin c s v 1), .l (F9 (c 0) (nxt (c 0) (s 0) (vin c s v 0)))]) := Path.run (m := 2) (f := f13_0) (.step (cy_0 c r0 (hs 0) (vin c s v 0)) rfl (.fin (ce_ (vin c s v 1) _))) rfl
  simp -implicitDefEqProofs only [g13, g13_0, asI_i, asN_n, asL_l, asB_b, asE_nil, Bool.cond_decide, hL, altK_0]
theorem py_0 (c : Nat → C5) (hc : Right (c 0)) {s : Q4} (hs : s.ok) (n : Nat) (l : List Int) (k v : Int) (h0 : List Int) : f4_1 (0, [.n n, .l l, .i k, .i v, .l h0, .l (F9 (c 0) s)]) = some (1, [.n n, .l l, .i k, .i (outV (c 0) s v), .l h0, .l (F9 (c 0) (nxt (c 0) s v))]) := by
  simp -implicitDefEqProofs only [f4_1, f4_1_0, asI_i, asN_n, asL_l, asB_b, asE_nil, Bool.cond_decide, nextL_ok (c 0) hc hs v, altK_0]
theorem pe_ (n : Nat) (l : List Int) (k v : Int) (h0 : List Int) (p0 : List Int) : f4_1 (1, [.n n, .l l, .i k, .i v, .l h0, .l p0]) = some (2 + 0, [.n n, .l l, .i k, .i v, .l h0, .l p0]) := rfl
theorem plain_ok (c : Nat → C5) (r0 : Right (c 0)) (s : Nat → Q4) (hs : ∀ i, (s i).ok) (n : Nat) (l : List Int) (k v : Int) (h0 : List Int) : L4_1 (0, [.n n, .l l, .i k, .i v, .l h0, .l (F9 (c 0) (s 0))]) = some (0, [.n n, .l l, .i k, .i (vin c s v 1), .l h0, .l (F9 (c 0) (nxt (c 0) (s 0) (vin c s v 0)))]) :=
  Path.run (m := 2) (f := f4_1) (.step (py_0 c r0 (hs 0) n l k (vin c s v 0) _) rfl (.fin (pe_ n l k (vin c s v 1) _ _))) rfl
theorem main_ok (c : Nat → C5) (r0 : Right (c 0)) (n : Nat) (l : List Int) (hn : l.length = n) : L4_2 (0, [.n n, .l l, .i ((0 : Nat) : Int), .l (F9 (c 0) (stt c l 0 0)), .l (F9 (c 0) (stt c l 0 0))]) = some (0, [.l (F9 (c 0) (stt c l (min n 60) 0)), .l (F9 (c 0) (stt c l (min n 60) 0))]) := by
  refine loopL_run (m := 1) (f := f4_2) (fun k => (0, [.n n, .l l, .i ((k : Nat) : Int), .l (F9 (c 0) (stt c l k 0)), .l (F9 (c 0) (stt c l k 0))])) (min n 60) (fun k hk => ⟨?_, by show 0 < 1; omega⟩) ?_ (by omega)
  · have hx := get_some (l := l) (i := k) (by omega)
    have w2 : IntKind.i64.wrap ((k : Int) + 1) = ((k + 1 : Nat) : Int) := wrap_nat (n := k + 1) (by omega)
    have h1 := chain_ok c r0 (stt c l k) (stt_ok c l k) (l.getD k 0)
    have h2 := plain_ok c r0 (stt c l k) (stt_ok c l k) n l (k : Int) (l.getD k 0) (F9 (c 0) (stt c l k 0))
    show f4_2 (0, [.n n, .l l, .i ((k : Nat) : Int), .l (F9 (c 0) (stt c l k 0)), .l (F9 (c 0) (stt c l k 0))]) = some (0, [.n n, .l l, .i ((k + 1 : Nat) : Int), .l (F9 (c 0) (nxt (c 0) (stt c l k 0) (vin c (stt c l k) (l.getD k 0) 0))), .l (F9 (c 0) (nxt (c 0) (stt c l k 0) (vin c (stt c l k) (l.getD k 0) 0)))])
    generalize l.getD k 0 = v at *
    simp -implicitDefEqProofs only [f4_2, f4_2_0, asI_i, asN_n, asL_l, asB_b, asE_nil, Bool.cond_decide, if_pos (show (k : Int) < (n : Int) by omega), if_pos (show (k : Int) < 60 by omega), if_pos (show (0 : Int) ≤ (k : Int) ∧ (k : Int) < (n : Int) by omega), Int.toNat_natCast, hx, optK_some, h2, altK_0, h1, ne_eq, not_true_eq_false, if_false, w2]
  · by_cases h : n ≤ 60
    · rw [show min n 60 = n by omega]
      simp -implicitDefEqProofs only [f4_2, f4_2_0, asI_i, asN_n, asL_l, asB_b, asE_nil, Bool.cond_decide, if_neg (Int.lt_irrefl _)]
    · rw [show min n 60 = 60 by omega]
      simp -implicitDefEqProofs only [f4_2, f4_2_0, asI_i, asN_n, asL_l, asB_b, asE_nil, Bool.cond_decide, if_pos (show ((60 : Nat) : Int) < (n : Int) by omega), if_neg (show ¬ ((60 : Nat) : Int) < 60 by omega)]
theorem ba_0 (c : Nat → C5) (t : List Int) (hl : 5 ≤ t.length) (e0 : List.take 5 t = L5 (c 0)) (hc : Right (c 0)) (n : Nat) (l : List Int) : f4_0 (0, [.l t, .n n, .l l]) = some (2, [.l t, .n n, .l l, .l (F9 (c 0) z4)]) := by
  simp -implicitDefEqProofs only [f4_0, f4_0_0, asI_i, asN_n, asL_l, asB_b, asE_nil, Bool.cond_decide, len5, tk5, dr5, dr9, List.append_nil, if_true, Nat.zero_add, Nat.le_refl, Nat.reduceLeDiff, if_pos (show 5 ≤ t.length by omega), e0, right7 (c 0) _ rfl, decide_eq_true hc, Bool.not_true, cond_false, altK_0]
theorem bb_0 (c : Nat → C5) (t : List Int) (hl : 5 ≤ t.length) (e0 : List.take 5 t = L5 (c 0)) (hc : Right (c 0)) (n : Nat) (l : List Int) (h0 : List Int) : f4_0 (1, [.l t, .n n, .l l, .l h0]) = some (3, [.l t, .n n, .l l, .l h0, .l (F9 (c 0) z4)]) := by
  simp -implicitDefEqProofs only [f4_0, f4_0_1, asI_i, asN_n, asL_l, asB_b, asE_nil, Bool.cond_decide, len5, tk5, dr5, dr9, List.append_nil, if_true, Nat.zero_add, Nat.le_refl, Nat.reduceLeDiff, if_pos (show 5 ≤ t.length by omega), e0, right7 (c 0) _ rfl, decide_eq_true hc, Bool.not_true, cond_false, altK_0]
theorem bn_0 (c : Nat → C5) (t : List Int) (hl : 5 ≤ t.length) (e0 : List.take 5 t = L5 (c 0)) (hc : ¬ Right (c 0)) (n : Nat) (l : List Int) : f4_0 (0, [.l t, .n n, .l l]) = some (4 + 0, [.b true]) := by
  simp -implicitDefEqProofs only [f4_0, f4_0_0, asI_i, asN_n, asL_l, asB_b, asE_nil, Bool.cond_decide, len5, tk5, dr5, dr9, List.append_nil, if_true, Nat.zero_add, Nat.le_refl, Nat.reduceLeDiff, if_pos (show 5 ≤ t.length by omega), e0, right7 (c 0) _ rfl, decide_eq_false hc, Bool.not_false, cond_true, altK_0, awakeL_ok, Nat.reduceAdd]
theorem be_ (t : List Int) (n : Nat) (l : List Int) (h0 : List Int) (p0 : List Int) : f4_0 (3, [.l t, .n n, .l l, .l h0, .l p0]) = some (4 + 3, [.l t, .n n, .l l, .l h0, .l p0]) := rfl
theorem core (c : Nat → C5) (t : List Int) (hl : 5 ≤ t.length) (e0 : List.take 5 t = L5 (c 0)) (n : Nat) (l : List Int) (hn : l.length = n) : g4 (0, [.l t, .n n, .l l]) = some (0, [.b true]) := by
  by_cases r0 : Right (c 0)
  case neg =>
    have h1 := row_no_0 c t hl e0 r0
    have h2 : L4_0 (0, [.l t, .n n, .l l]) = some (0, [.b true]) := Path.run (m := 4) (f := f4_0) (.fin (bn_0 c t hl e0 r0 n l)) rfl
    simp -implicitDefEqProofs only [g4, g4_0, asI_i, asN_n, asL_l, asB_b, asE_nil, Bool.cond_decide, h1, altK_0, h2, altK_0]
  have h1 := row_yes c t hl e0 r0
  have a9 : P.g9 (0, []) = some (0, []) := rfl
  have a10 : P.g10 (1, [.i 77777]) = some (1, [.i 77777]) := rfl
  have h2 : L4_0 (1, [.l t, .n n, .l l, .l (F9 (c 0) z4)]) = some (3, [.l t, .n n, .l l, .l (F9 (c 0) z4), .l (F9 (c 0) z4)]) := Path.run (m := 4) (f := f4_0) (.step (bb_0 c t hl e0 r0 n l _) rfl (.fin (be_ t n l _ _))) rfl
  have h3 : L4_2 (0, [.n n, .l l, .i 0, .l (F9 (c 0) z4), .l (F9 (c 0) z4)]) = some (0, [.l (F9 (c 0) (stt c l (min n 60) 0)), .l (F9 (c 0) (stt c l (min n 60) 0))]) := main_ok c r0 n l hn
  simp -implicitDefEqProofs only [g4, g4_0, asI_i, asN_n, asL_l, asB_b, asE_nil, Bool.cond_decide, h1, altK_1, h2, altK_3, a9, altK_0, a10, altK_1, ne_eq, not_true_eq_false, if_false, h3, awakeL_ok]
theorem ev_ (l0 : List Int) (hl : l0.length = 1 * 5) (n : Nat) (l : List Int) (hn : l.length = n * 1) : evF tab 21 4 [.ro (.ints .i64 l0) 1 5, .ro (.ints .i64 l) n 1] [] = some (.bool true, [], []) := by
  obtain ⟨q, h1, rfl⟩ := row_of 1 l0 hl
  exact (ok4 0).ret (i := 0) (ls := [.l (rowL q), .n n, .l l]) (j := 0) (r := [.b true]) (core (fun i => q.getD i c50) (rowL q) (by omega) (piece_of q 0 (by omega)) n l (by omega)) rfl rfl rfl rfl
end Go.Proofs.Ytgjmlenokdggoaa.Q1
