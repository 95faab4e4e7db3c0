/-
  The law of what filters one behind the other tell of any samples: 0 of them. Conditions: none.
-/
import Derived.Test.YtgjmlenokdggoaaFilts
import Derived.Test.YtgjmlenokdggoaaDecQ0
namespace Go.Proofs.Ytgjmlenokdggoaa.Q0
open Go Go.Sx P
set_option maxRecDepth 100000
set_option linter.unusedVariables false
attribute [local simp] asI_i asB_b asL_l asN_n asS_s asE_nil altK_none altK_0 altK_1 altK_2 altK_3 optK_some optK_none Bool.cond_decide Bool.cond_not Int.toNat_natCast
set_option linter.unusedSimpArgs false
theorem len5 (c : C5) : (L5 c).length = 5 := rfl
theorem tk5 (c : C5) : List.take 5 (L5 c) = L5 c := rfl
theorem dr5 : List.drop 5 ([0, 0, 0, 0, 0] : List Int) = [] := rfl
theorem dr9 (c : C5) : L5 c ++ List.drop 5 ([0, 0, 0, 0, 0, 0, 0, 0, 0] : List Int) = F9 c z4 := rfl
theorem re_ (t : List Int) : f12_0 (0, [.l t]) = some (1 + 0, []) := rfl
theorem row_yes (c : Nat → C5) (t : List Int) (hl : 0 ≤ t.length) : g12 (0, [.l t]) = some (0, []) := by
  have hL : L12_0 (0, [.l t]) = some (0, []) := Path.run (m := 1) (f := f12_0) (.fin (re_ t)) rfl
  simp -implicitDefEqProofs only [g12, g12_0, asI_i, asN_n, asL_l, asB_b, asE_nil, Bool.cond_decide, hL, altK_0]
theorem ce_ (v : Int) : f13_0 (0, [.i v]) = some (1 + 0, [.i v]) := rfl
theorem chain_ok (c : Nat → C5) (s : Nat → Q4) (hs : ∀ i, (s i).ok) (v : Int) : g13 (0, [.i v]) = some (0, [.i (vin c s v 0)]) := by
  have hL : L13_0 (0, [.i v]) = some (0, [.i (vin c s v 0)]) := Path.run (m := 1) (f := f13_0) (.fin (ce_ (vin c s v 0))) rfl
  simp -implicitDefEqProofs only [g13, g13_0, asI_i, asN_n, asL_l, asB_b, asE_nil, Bool.cond_decide, hL, altK_0]
theorem pe_ (n : Nat) (l : List Int) (k v : Int) : f4_1 (0, [.n n, .l l, .i k, .i v]) = some (1 + 0, [.n n, .l l, .i k, .i v]) := rfl
theorem plain_ok (c : Nat → C5) (s : Nat → Q4) (hs : ∀ i, (s i).ok) (n : Nat) (l : List Int) (k v : Int) : L4_1 (0, [.n n, .l l, .i k, .i v]) = some (0, [.n n, .l l, .i k, .i (vin c s v 0)]) :=
  Path.run (m := 1) (f := f4_1) (.fin (pe_ n l k (vin c s v 0))) rfl
theorem main_ok (c : Nat → C5) (n : Nat) (l : List Int) (hn : l.length = n) : L4_2 (0, [.n n, .l l, .i ((0 : Nat) : Int)]) = some (0, []) := by
  refine loopL_run (m := 1) (f := f4_2) (fun k => (0, [.n n, .l l, .i ((k : Nat) : Int)])) (min n 60) (fun k hk => ⟨?_, by show 0 < 1; omega⟩) ?_ (by omega)
  · have hx := get_some (l := l) (i := k) (by omega)
    have w2 : IntKind.i64.wrap ((k : Int) + 1) = ((k + 1 : Nat) : Int) := wrap_nat (n := k + 1) (by omega)
    have h1 := chain_ok c (stt c l k) (stt_ok c l k) (l.getD k 0)
    have h2 := plain_ok c (stt c l k) (stt_ok c l k) n l (k : Int) (l.getD k 0)
    show f4_2 (0, [.n n, .l l, .i ((k : Nat) : Int)]) = some (0, [.n n, .l l, .i ((k + 1 : Nat) : Int)])
    generalize l.getD k 0 = v at *
    simp -implicitDefEqProofs only [f4_2, f4_2_0, asI_i, asN_n, asL_l, asB_b, asE_nil, Bool.cond_decide, if_pos (show (k : Int) < (n : Int) by omega), if_pos (show (k : Int) < 60 by omega), if_pos (show (0 : Int) ≤ (k : Int) ∧ (k : Int) < (n : Int) by omega), Int.toNat_natCast, hx, optK_some, h2, altK_0, h1, ne_eq, not_true_eq_false, if_false, w2]
  · by_cases h : n ≤ 60
    · rw [show min n 60 = n by omega]
      simp -implicitDefEqProofs only [f4_2, f4_2_0, asI_i, asN_n, asL_l, asB_b, asE_nil, Bool.cond_decide, if_neg (Int.lt_irrefl _)]
    · rw [show min n 60 = 60 by omega]
      simp -implicitDefEqProofs only [f4_2, f4_2_0, asI_i, asN_n, asL_l, asB_b, asE_nil, Bool.cond_decide, if_pos (show ((60 : Nat) : Int) < (n : Int) by omega), if_neg (show ¬ ((60 : Nat) : Int) < 60 by omega)]
theorem be_ (t : List Int) (n : Nat) (l : List Int) : f4_0 (0, [.l t, .n n, .l l]) = some (1 + 0, [.l t, .n n, .l l]) := rfl
theorem core (c : Nat → C5) (t : List Int) (hl : 0 ≤ t.length) (n : Nat) (l : List Int) (hn : l.length = n) : g4 (0, [.l t, .n n, .l l]) = some (0, [.b true]) := by
  have h1 := row_yes c t hl
  have a9 : P.g9 (0, []) = some (0, []) := rfl
  have a10 : P.g10 (1, [.i 77777]) = some (1, [.i 77777]) := rfl
  have h2 : L4_0 (0, [.l t, .n n, .l l]) = some (0, [.l t, .n n, .l l]) := Path.run (m := 1) (f := f4_0) (.fin (be_ t n l)) rfl
  have h3 : L4_2 (0, [.n n, .l l, .i 0]) = some (0, []) := main_ok c n l hn
  simp -implicitDefEqProofs only [g4, g4_0, asI_i, asN_n, asL_l, asB_b, asE_nil, Bool.cond_decide, h1, altK_0, h2, altK_0, a9, altK_0, a10, altK_1, ne_eq, not_true_eq_false, if_false, h3, awakeL_ok]
theorem ev_ (l0 : List Int) (hl : l0.length = 0 * 5) (n : Nat) (l : List Int) (hn : l.length = n * 1) : evF tab 21 4 [.ro (.ints .i64 l0) 0 5, .ro (.ints .i64 l) n 1] [] = some (.bool true, [], []) := by
  obtain ⟨q, h1, rfl⟩ := row_of 0 l0 hl
  exact (ok4 0).ret (i := 0) (ls := [.l (rowL q), .n n, .l l]) (j := 0) (r := [.b true]) (core (fun i => q.getD i c50) (rowL q) (by omega) n l (by omega)) rfl rfl rfl rfl
end Go.Proofs.Ytgjmlenokdggoaa.Q0
