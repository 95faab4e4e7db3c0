/-
  The law of bars. Conditions: none.
-/
import Derived.Test.YtmghafpbaigkaaaDecA
import Derived.KernelRfl
namespace Go.Proofs.Ytmghafpbaigkaaa
open Go Go.Sx
set_option maxRecDepth 100000
set_option linter.unusedVariables false
attribute [local simp] asI_i asB_b asL_l asN_n asS_s asE_nil altK_none altK_0 altK_1 altK_2 altK_3 optK_some optK_none Bool.cond_decide Bool.cond_not Int.toNat_natCast
set_option linter.unusedSimpArgs false
/-- How many signs a bar has. -/
def barN (v step most : Int) : Nat := if 0 ≤ v ∧ 1 ≤ step ∧ 0 ≤ most then (min (min (v / step) most) 1000).toNat else 0
theorem barN_le (v step most : Int) : barN v step most ≤ 1000 := by
  unfold barN
  split
  · omega
  · omega
theorem fill_ok (n : Nat) (hn : n ≤ 1000) : L8_0 (0, [.n n, .i n, .i 0, .l (List.replicate n 0)]) = some (0, [.n n, .l (List.replicate n 35)]) := by
  have hv : (List.replicate n (35 : Int)).length = (List.replicate n (0 : Int)).length := by simp
  have := loop1_run (f := f8_0) (fun k => [.n n, .i n, .i k, .l (mix (List.replicate n (35 : Int)) (List.replicate n 0) k)]) n (j := 0) (r := [.n n, .l (List.replicate n 35)]) (fun k hk => ?_) ?_ (by omega)
  · rw [mix_zero] at this; exact this
  · have h1 : (k : Int) < n := by omega
    have h0 : (0 : Int) ≤ k ∧ (k : Int) < n := by omega
    have w2 : IntKind.i64.wrap ((k : Int) + 1) = ((k + 1 : Nat) : Int) := wrap_nat (n := k + 1) (by omega)
    have hl : k < (mix (List.replicate n (35 : Int)) (List.replicate n 0) k).length := by rw [mix_len hv]; simpa using hk
    have hs := mix_set hv (k := k) (by simpa using hk) (x := 35) (by simp [hk])
    simp only [f8_0, f8_0_0, asN_n, asI_i, asL_l, asE_nil, Bool.cond_decide, if_pos h1, if_pos h0, Int.toNat_natCast, if_pos hl, hs, w2]
  · have : mix (List.replicate n (35 : Int)) (List.replicate n 0) n = List.replicate n 35 := by
      have := mix_all hv
      rwa [List.length_replicate] at this
    simp [f8_0, f8_0_0, this]
theorem bar_ok (v step most : Int) (hv : v ≤ 9223372036854775807) : g8 (0, [.i v, .i step, .i most]) = some (0, [.s (List.replicate (barN v step most) 35)]) := by
  simp -implicitDefEqProofs only [g8, g8_0, asI_i, asE_nil, Bool.cond_decide]
  by_cases h1 : v < 0
  · rw [if_pos h1]; simp [barN, show ¬ 0 ≤ v by omega]
  · rw [if_neg h1]
    by_cases h2 : step < 1
    · rw [if_pos h2]; simp [barN, show ¬ 1 ≤ step by omega]
    · rw [if_neg h2]
      by_cases h3 : most < 0
      · rw [if_pos h3]; simp [barN, show ¬ 0 ≤ most by omega]
      · rw [if_neg h3, if_neg (show ¬ step = 0 by omega)]
        have d1 : Int.tdiv v step = v / step := Int.tdiv_eq_ediv_of_nonneg (by omega)
        have d2 : 0 ≤ v / step ∧ v / step ≤ v := ⟨Int.ediv_nonneg (by omega) (by omega), Int.ediv_le_self _ (by omega)⟩
        have hb : barN v step most = (min (min (v / step) most) 1000).toNat := by
          unfold barN; rw [if_pos ⟨by omega, by omega, by omega⟩]
        rw [hb]
        rw [d1, wrap64 (x := v / step) (by omega) (by omega)]
        generalize v / step = q at *
        have hX : (if (1000 : Int) < (if most < q then most else q) then (1000 : Int) else if most < q then most else q) = ((min (min q most) 1000).toNat : Int) := by
          split <;> split <;> omega
        simp -implicitDefEqProofs only [hX]
        have hn : (min (min q most) 1000).toNat ≤ 1000 := by omega
        generalize (min (min q most) 1000).toNat = n at *
        have hf := fill_ok n hn
        rw [if_pos trivial, if_pos (by omega), if_pos (by omega), if_pos (by omega), Int.toNat_natCast, hf, altK_0, asN_n, asL_l, asE_nil, if_pos (by simp)]
        simp
/-- All bars. -/
def barsL (step most : Int) (l : List Int) : List UInt8 := l.flatMap fun v => List.replicate (barN v step most) 35 ++ [10]
theorem barsL_snoc (step most : Int) (l : List Int) (v : Int) : barsL step most (l ++ [v]) = barsL step most l ++ (List.replicate (barN v step most) 35 ++ [10]) := by simp [barsL]
theorem barsL_len (step most : Int) : ∀ l : List Int, (barsL step most l).length ≤ 1001 * l.length
  | [] => by simp [barsL]
  | v :: l => by
    have := barsL_len step most l
    have := barN_le v step most
    simp only [barsL, List.flatMap_cons, List.length_append, List.length_replicate, List.length_cons, List.length_nil] at *
    omega
theorem take_snoc {α : Type} {l : List α} {k : Nat} {x : α} (h : l[k]? = some x) : l.take (k + 1) = l.take k ++ [x] := by
  rw [List.take_add_one, h]; rfl
theorem rows_ok (step most : Int) (l : List Int) (n : Nat) (hl : n ≤ l.length) (hn : n ≤ 20) (hw : ∀ k, l.getD k 0 ≤ 9223372036854775807) : g9 (0, [.i step, .i most, .n n, .l l]) = some (0, [.s (barsL step most (l.take n)), .l l]) := by
  have hL : L9_0 (0, [.i step, .i most, .s [], .n n, .i n, .i 0, .l l]) = some (0, [.s (barsL step most (l.take n)), .l l]) := by
    refine loop1_run (f := f9_0) (fun k => [.i step, .i most, .s (barsL step most (l.take k)), .n n, .i n, .i k, .l l]) n (fun k hk => ?_) (by simp [f9_0, f9_0_0]) (by omega)
    have hx := get_some (l := l) (i := k) (by omega)
    have h1 : (k : Int) < n := by omega
    have h0 : (0 : Int) ≤ k ∧ (k : Int) < n := by omega
    have w2 : IntKind.i64.wrap ((k : Int) + 1) = ((k + 1 : Nat) : Int) := wrap_nat (n := k + 1) (by omega)
    have hb := bar_ok (l.getD k 0) step most (hw k)
    have hbl := barN_le (l.getD k 0) step most
    have hs := barsL_len step most (l.take k)
    have hs2 : (l.take k).length ≤ 20 := by rw [List.length_take]; omega
    generalize hxv : l.getD k 0 = v at *
    have c1 : (List.replicate (barN v step most) (35 : UInt8)).length + 1 ≤ 9223372036854775807 := by simp; omega
    have c2 : (barsL step most (l.take k)).length + (List.replicate (barN v step most) (35 : UInt8) ++ [OfNat.ofNat 10]).length ≤ 9223372036854775807 := by simp; omega
    rw [take_snoc hx, barsL_snoc]
    simp -implicitDefEqProofs only [f9_0, f9_0_0, asN_n, asI_i, asL_l, asS_s, asE_nil, Bool.cond_decide, if_pos h1, if_pos h0, Int.toNat_natCast, hx, optK_some, hb, altK_0, w2, if_pos c1, if_pos c2]
  simp -implicitDefEqProofs only [g9, g9_0, asN_n, asI_i, asL_l, asS_s, asE_nil, hL, altK_0]
theorem signs_ok (step most t8 : Int) (n2 : Nat) (s7 : List UInt8) (h0l : List Int) (n : Nat) (hn : n ≤ 1000) : L3_0 (0, [.i step, .i most, .n n2, .s s7, .i t8, .i n, .s (List.replicate n 35), .i 0, .l h0l]) = some (0, [.i step, .i most, .n n2, .s s7, .i t8, .s (List.replicate n 35), .l h0l]) := by
  refine loop1_run (f := f3_0) (fun k => [.i step, .i most, .n n2, .s s7, .i t8, .i n, .s (List.replicate n 35), .i k, .l h0l]) n (fun k hk => ?_) (by simp [f3_0, f3_0_0]) (by omega)
  have h1 : (k : Int) < n := by omega
  have h0 : (0 : Int) ≤ k ∧ (k : Int) < ((List.replicate n (35 : UInt8)).length : Nat) := by simp; omega
  have w2 : IntKind.i64.wrap ((k : Int) + 1) = ((k + 1 : Nat) : Int) := wrap_nat (n := k + 1) (by omega)
  have hx : (List.replicate n (35 : UInt8))[k]? = some 35 := by simp [hk]
  have h35 : ((UInt8.toNat 35 : Nat) : Int) = 35 := rfl
  simp -implicitDefEqProofs only [f3_0, f3_0_0, asN_n, asI_i, asL_l, asS_s, asE_nil, Bool.cond_decide, if_pos h1, if_pos h0, Int.toNat_natCast, hx, optK_some, h35, ne_eq, not_true_eq_false, if_false, w2]
theorem bars_loop (step most : Int) (l : List Int) (n : Nat) (hl : n ≤ l.length) (hn : n ≤ 20) (hw : ∀ k, l.getD k 0 ≤ 9223372036854775807) : L3_1 (0, [.i step, .i most, .n n, .s [], .i 0, .l l]) = some (0, [.i step, .i most, .n n, .s (barsL step most (l.take n)), .l l]) := by
  refine loop1_run (f := f3_1) (fun k => [.i step, .i most, .n n, .s (barsL step most (l.take k)), .i k, .l l]) n (fun k hk => ?_) (by simp [f3_1, f3_1_0]) (by omega)
  have hx := get_some (l := l) (i := k) (by omega)
  have h1 : (k : Int) < n := by omega
  have h0 : (0 : Int) ≤ k ∧ (k : Int) < n := by omega
  have w2 : IntKind.i64.wrap ((k : Int) + 1) = ((k + 1 : Nat) : Int) := wrap_nat (n := k + 1) (by omega)
  have hb := bar_ok (l.getD k 0) step most (hw k)
  have hbl := barN_le (l.getD k 0) step most
  have hs := barsL_len step most (l.take k)
  have hs2 : (l.take k).length ≤ 20 := by rw [List.length_take]; omega
  have hsg := signs_ok step most k n (barsL step most (l.take k)) l (barN (l.getD k 0) step most) hbl
  have hvx := hw k
  rw [take_snoc hx, barsL_snoc]
  generalize hxv : l.getD k 0 = v at *
  have hlen : ((List.replicate (barN v step most) (35 : UInt8)).length : Int) = barN v step most := by simp
  have c1 : (barsL step most (l.take k)).length + (List.replicate (barN v step most) (35 : UInt8)).length ≤ 9223372036854775807 := by simp; omega
  have c2 : (barsL step most (l.take k) ++ List.replicate (barN v step most) (35 : UInt8)).length + 1 ≤ 9223372036854775807 := by simp; omega
  simp -implicitDefEqProofs only [f3_1, f3_1_0, asN_n, asI_i, asL_l, asS_s, asE_nil, Bool.cond_decide, if_pos h1, if_pos h0, Int.toNat_natCast, hx, optK_some, hb, altK_0, w2, hlen]
  have fin : ∀ m : Int, m = barN v step most → (if ((barN v step most : Nat) : Int) ≠ m then (some (2, [Leaf.l l]) : Option (Nat × List Leaf)) else altK (L3_0 (0, [.i step, .i most, .n n, .s (barsL step most (l.take k)), .i k, .i m, .s (List.replicate (barN v step most) 35), .i 0, .l l])) [fun r => asI r (fun x233 r => asI r (fun x234 r => asN r (fun x235n r => asS r (fun x237 r => asI r (fun x238 r => asS r (fun x240 r => asL r (fun x250h0 r => asE r (if List.length x237 + List.length x240 ≤ (9223372036854775807 : Nat) then if List.length (x237 ++ x240) + (1 : Nat) ≤ (9223372036854775807 : Nat) then some (0, [.i (x233), .i (x234), .n (x235n), .s (x237 ++ x240 ++ [OfNat.ofNat (10 : Nat)]), .i (Go.IntKind.wrap Go.IntKind.i64 (x238 + (1 : Int))), .l (x250h0)]) else none else none) none) none) none) none) none) none) none) none, fun r => asL r (fun x268h0 r => asE r (some (2, [.l (x268h0)])) none) none] none) = some (0, [.i step, .i most, .n n, .s (barsL step most (l.take k) ++ (List.replicate (barN v step most) 35 ++ [10])), .i (k + 1 : Nat), .l l]) := by
    intro m hm
    subst hm
    rw [if_neg (by simp), hsg]
    simp -implicitDefEqProofs only [altK_0, asI_i, asN_n, asS_s, asL_l, asE_nil, if_pos c1, if_pos c2, w2, List.append_assoc]
  by_cases g1 : 0 ≤ v
  · rw [if_pos g1]
    by_cases g2 : 1 ≤ step
    · rw [if_pos g2]
      by_cases g3 : 0 ≤ most
      · rw [if_pos g3, if_neg (show ¬ step = 0 by omega)]
        have d1 : Int.tdiv v step = v / step := Int.tdiv_eq_ediv_of_nonneg (by omega)
        have d2 : 0 ≤ v / step ∧ v / step ≤ v := ⟨Int.ediv_nonneg (by omega) (by omega), Int.ediv_le_self _ (by omega)⟩
        have e : barN v step most = (min (min (v / step) most) 1000).toNat := by
          unfold barN; rw [if_pos ⟨by omega, by omega, by omega⟩]
        rw [d1, wrap64 (x := v / step) (by omega) (by omega)]
        by_cases g4 : most < v / step
        · rw [if_pos g4]
          by_cases g5 : 1000 < most
          · rw [if_pos g5]; exact fin _ (by omega)
          · rw [if_neg g5]; exact fin _ (by omega)
        · rw [if_neg g4]
          by_cases g5 : 1000 < v / step
          · rw [if_pos g5]; exact fin _ (by omega)
          · rw [if_neg g5]; exact fin _ (by omega)
      · rw [if_neg g3]
        exact fin 0 (by unfold barN; rw [if_neg (by omega)]; rfl)
    · rw [if_neg g2]
      exact fin 0 (by unfold barN; rw [if_neg (by omega)]; rfl)
  · rw [if_neg g1]
    exact fin 0 (by unfold barN; rw [if_neg (by omega)]; rfl)
theorem bars (step most : Int) (l : List Int) (n : Nat) (hl : l.length = n) (hm : n < 9223372036854775808) (hw : ∀ k, l.getD k 0 ≤ 9223372036854775807) : g3 (0, [.i step, .i most, .n n, .l l]) = some (0, [.b true, .l l]) := by
  simp -implicitDefEqProofs only [g3, g3_0, asN_n, asI_i, asL_l, asE_nil, Bool.cond_decide]
  by_cases h : (20 : Int) < n
  · have e1 := bars_loop step most l 20 (by omega) (by omega) hw
    have e2 := rows_ok step most l 20 (by omega) (by omega) hw
    have c : (0 : Int) ≤ 20 ∧ (20 : Int) ≤ (n : Int) := by omega
    rw [if_pos h, if_pos c, e1]
    simp -implicitDefEqProofs only [altK_0, asN_n, asI_i, asL_l, asS_s, asE_nil, e2, Bool.cond_decide, if_true, awakeL_ok, asB_b]
  · have e1 := bars_loop step most l n (by omega) (by omega) hw
    have e2 := rows_ok step most l n (by omega) (by omega) hw
    rw [if_neg h, e1]
    simp -implicitDefEqProofs only [altK_0, asN_n, asI_i, asL_l, asS_s, asE_nil, e2, Bool.cond_decide, if_true, awakeL_ok, asB_b]
theorem bars_n (a b : Int) : evF tab 30 3 [.int .i64 a, .int .i64 b, .nils] [] = some (.bool true, [], []) := by kernel_rfl
theorem bars_d (a b : Int) : evF tab 30 3 [.int .i64 a, .int .i64 b, .slice 0 0 0 1] [⟨true, .unk⟩] = some (.bool true, [⟨true, .unk⟩], []) := by kernel_rfl
theorem getD_wf {k : IntKind} {q : List Int} (h : ∀ x ∈ q, (Lit.int k x).wf = true) (i : Nat) : (Lit.int k (q.getD i 0)).wf = true := by
  by_cases hi : i < q.length
  · exact h _ (by simp [hi])
  · have : q.getD i 0 = 0 := by simp [List.getD, List.getElem?_eq_none (Nat.le_of_not_lt hi)]
    rw [this]
    cases k <;> rfl
theorem bars_l (a b : Int) (l : List Int) (n : Nat) (hl : l.length = n * 1) (hm : n ≤ maxLen) (hw : ∀ x ∈ l, (Lit.int .i64 x).wf = true) : ∃ d, evF tab d 3 [.int .i64 a, .int .i64 b, .slice 0 0 n 1] [⟨false, .ints .i64 l⟩] = some (.bool true, [⟨false, .ints .i64 l⟩], []) := by
  unfold maxLen at hm
  exact ⟨_, (ok3 0).ret (i := 0) (ls := [.i a, .i b, .n n, .l l]) (j := 0) (r := [.b true, .l l]) (bars a b l n (by omega) (by omega) (fun k => (wf64 (getD_wf hw k)).2)) rfl rfl rfl rfl⟩
end Go.Proofs.Ytmghafpbaigkaaa
