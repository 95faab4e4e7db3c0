/-
  The law of what samples are like. Conditions: none.
-/
import Derived.Test.YtjekhbenohnpnaaMeter
import Derived.Test.YtjekhbenohnpnaaFewS
namespace Go.Proofs.Ytjekhbenohnpnaa
open Go Go.Sx
set_option maxRecDepth 100000
set_option linter.unusedVariables false
attribute [local simp] asI_i asB_b asL_l asN_n asS_s asE_nil altK_none altK_0 altK_1 altK_2 altK_3 optK_some optK_none Bool.cond_decide Bool.cond_not Int.toNat_natCast
set_option linter.unusedSimpArgs false
def fewV : List Int → List Int := fewL 200 (fun x => Int.tmod x 1048577)
theorem few_ok (l : List Int) (n : Nat) (hn : l.length = n) (h1 : 1 ≤ n) (hm : n < 9223372036854775808) : g8 (0, [.n n, .l l]) = some (1, [.n (min 200 n), .l l, .l (fewV l)]) := by
  have hl : L8_0 (0, [.n n, .i 0, .l l]) = some (3, [.n (min 200 n), .l l, .l (fewV l)]) := by
    refine few_loopS 4 3 (by omega) (f := f8_0) 200 (fun x => Int.tmod x 1048577) l n hn h1 (by omega) (by omega) ?_ (fun k L k1 k2 k3 hL => ?_) (fun k L k1 k2 k3 hL => ?_)
    · have hx : l[Int.toNat 0]? = some (l.getD 0 0) := get_some (l := l) (i := 0) (by omega)
      have w : IntKind.i64.wrap ((0 : Int) + 1) = 1 := wrap_nat (n := 1) (by omega)
      simp -implicitDefEqProofs only [f8_0, f8_0_0, asN_n, asI_i, asL_l, asE_nil, Bool.cond_decide, if_pos (show (0 : Int) < n by omega), if_pos (show (0 : Int) < 200 by omega), if_pos (show (0 : Int) ≤ 0 ∧ (0 : Int) < n by omega), hx, optK_some, w]
    · have hx := get_some (l := l) (i := k) (by omega)
      have w : IntKind.i64.wrap ((k : Int) + 1) = ((k + 1 : Nat) : Int) := wrap_nat (n := k + 1) (by omega)
      simp -implicitDefEqProofs only [f8_0, f8_0_3, asN_n, asI_i, asL_l, asE_nil, Bool.cond_decide, if_pos (show (k : Int) < n by omega), if_pos (show (k : Int) < 200 by omega), if_pos (show (0 : Int) ≤ k ∧ (k : Int) < n by omega), Int.toNat_natCast, hx, optK_some, w, if_pos (show (k + 1) * 8 ≤ 70368744177664 by omega), if_pos (show L.length = k * 1 by omega)]
    · simp -implicitDefEqProofs only [f8_0, f8_0_3, asN_n, asI_i, asL_l, asE_nil, Bool.cond_decide]
      by_cases c : (k : Int) < n
      · rw [if_pos c, if_neg (by omega)]
      · rw [if_neg c]
  simp -implicitDefEqProofs only [g8, g8_0, asN_n, asL_l, asE_nil, hl, altK_3]
theorem few_0 (l : List Int) : g8 (0, [.n 0, .l l]) = some (0, [.l l]) := by
  have hl : L8_0 (0, [.n 0, .i 0, .l l]) = some (0, [.l l]) := loopL_last (m := 4) (f := f8_0) (j := 0) (by
    simp -implicitDefEqProofs only [f8_0, f8_0_0, asN_n, asI_i, asL_l, asE_nil, Bool.cond_decide, if_neg (show ¬ (0 : Int) < ((0 : Nat) : Int) by omega)])
  simp -implicitDefEqProofs only [g8, g8_0, asN_n, asL_l, asE_nil, hl, altK_0]
theorem few_nil : g8 (1, []) = some (2, []) := by
  have hl : L8_0 (1, [.i 0]) = some (1, []) := loopL_last (m := 4) (f := f8_0) (j := 1) (by
    simp -implicitDefEqProofs only [f8_0, f8_0_1, asN_n, asI_i, asL_l, asE_nil, Bool.cond_decide, if_neg (Int.lt_irrefl _)])
  simp -implicitDefEqProofs only [g8, g8_1, asN_n, asL_l, asE_nil, hl, altK_1]
theorem few_z : g8 (2, []) = some (3, []) := by
  have hl : L8_0 (2, [.n 0, .i 0]) = some (2, []) := loopL_last (m := 4) (f := f8_0) (j := 2) (by
    simp -implicitDefEqProofs only [f8_0, f8_0_2, asN_n, asI_i, asL_l, asE_nil, Bool.cond_decide, if_neg (show ¬ (0 : Int) < ((0 : Nat) : Int) by omega)])
  simp -implicitDefEqProofs only [g8, g8_2, asN_n, asL_l, asE_nil, hl, altK_2]
theorem fewV_len (l : List Int) : (fewV l).length = min 200 l.length := fewL_len _ _ _
theorem fewV_in (l : List Int) (k : Nat) : Small ((fewV l).getD k 0) := by
  unfold Small
  by_cases h : k < (fewV l).length
  · have hx := get_some h
    have hm := List.mem_of_getElem? hx
    unfold fewV fewL at hm
    rw [List.mem_map] at hm
    obtain ⟨x, _, e⟩ := hm
    rw [show (fewV l).getD k 0 = Int.tmod x 1048577 from e.symm]
    have a1 := Int.tmod_lt_of_pos x (show (0 : Int) < 1048577 by omega)
    have a2 : -1048577 < Int.tmod x 1048577 := Int.lt_tmod_of_pos x (by omega)
    omega
  · have : (fewV l).getD k 0 = 0 := by simp [List.getElem?_eq_none (show (fewV l).length ≤ k by omega)]
    omega
theorem of_nil : g11 (1, []) = some (1, [.i 0, .i 0, .i 0, .i 0, .i 0, .i 0, .i 0, .i 0, .i 0]) := by kernel_rfl
theorem lv_nil : g9 (1, []) = some (1, [.i 0, .i 0, .i 0, .i 0, .i 0, .i 0, .i 0, .i 0, .i 0]) := by kernel_rfl
theorem loud_0 : g12 (0, [.l [0, 0, 0, 0, 0, 0, 0, 0, 0]]) = some (0, [.i 0]) := by kernel_rfl
theorem mean_0 : g13 (0, [.l [0, 0, 0, 0, 0, 0, 0, 0, 0]]) = some (0, [.i 0]) := by kernel_rfl
theorem root_any (v : Int) (h : 0 ≤ v ∧ v ≤ 1099511627776) : ∃ r : Int, g6 (0, [.i v]) = some (0, [.i r]) ∧ 0 ≤ r ∧ r ≤ 1048576 ∧ r * r ≤ v ∧ v < (r + 1) * (r + 1) := by
  by_cases c : v = 0
  · subst c
    exact ⟨0, by kernel_rfl, by omega, by omega, by omega, by omega⟩
  · obtain ⟨V, rfl⟩ : ∃ V : Nat, v = V := ⟨v.toNat, by omega⟩
    obtain ⟨i1, i2, i3⟩ := rt_inv V (by omega) 32 (by omega)
    have hr := root_ok V (by omega) (by omega)
    generalize rt V 32 = r at *
    have hb : r ≤ 1048576 := by
      rcases Nat.lt_or_ge 1048576 r with q | q
      · have := sq_le (show 1048577 ≤ r by omega)
        omega
      · exact q
    refine ⟨r, hr, by omega, by omega, ?_, ?_⟩
    · have : ((r * r : Nat) : Int) ≤ (V : Int) := by omega
      simpa using this
    · have e : 2 ^ (32 - 32) = 1 := by decide
      rw [e] at i2
      have : (V : Int) < (((r + 1) * (r + 1) : Nat) : Int) := by omega
      simpa using this
theorem loud_ok (n pk lo hi sm pw cr cl ru : Int) (hn : 1 ≤ n ∧ n ≤ 1000) (hp : 0 ≤ pw ∧ pw ≤ 1099511627776 * n) : (∃ r : Int, g12 (0, [.l [n, pk, lo, hi, sm, pw, cr, cl, ru]]) = some (0, [.i r]) ∧ 0 ≤ r ∧ r ≤ 1048576 ∧ r * r ≤ Int.tdiv pw n ∧ Int.tdiv pw n < (r + 1) * (r + 1)) ∧ 0 ≤ Int.tdiv pw n ∧ Int.tdiv pw n ≤ 1099511627776 := by
  have e : Int.tdiv pw n = pw / n := Int.tdiv_eq_ediv_of_nonneg hp.1
  have h1 : 0 ≤ pw / n := Int.ediv_nonneg hp.1 (by omega)
  have h2 : pw / n ≤ 1099511627776 := Int.ediv_le_of_le_mul (by omega) hp.2
  obtain ⟨r, hr, hs⟩ := root_any (pw / n) ⟨h1, h2⟩
  rw [e]
  refine ⟨⟨r, ?_, hs⟩, h1, h2⟩
  have w : IntKind.i64.wrap (pw / n) = pw / n := wrap64 (by omega) (by omega)
  have g0 : ([n, pk, lo, hi, sm, pw, cr, cl, ru] : List Int)[(0 : Nat)]? = some n := rfl
  have g5 : ([n, pk, lo, hi, sm, pw, cr, cl, ru] : List Int)[(5 : Nat)]? = some pw := rfl
  simp -implicitDefEqProofs only [g12, g12_0, asI_i, asL_l, asE_nil, Bool.cond_decide, g0, g5, optK_some, if_neg (show ¬ n = 0 by omega), e, w, hr, altK_0]
theorem mean_ok (n pk lo hi sm pw cr cl ru : Int) (hn : 1 ≤ n ∧ n ≤ 1000) (hs : In64 sm) : g13 (0, [.l [n, pk, lo, hi, sm, pw, cr, cl, ru]]) = some (0, [.i (sm / n)]) := by
  have hf := floor_ok sm n hs (by omega)
  have g0 : ([n, pk, lo, hi, sm, pw, cr, cl, ru] : List Int)[(0 : Nat)]? = some n := rfl
  have g4 : ([n, pk, lo, hi, sm, pw, cr, cl, ru] : List Int)[(4 : Nat)]? = some sm := rfl
  simp -implicitDefEqProofs only [g13, g13_0, asI_i, asL_l, asE_nil, g0, g4, optK_some, hf, altK_0]
theorem levels_0 (l : List Int) : g5 (0, [.n 0, .l l]) = some (0, [.b true, .l l]) := by
  have hd : decide (([0, 0, 0, 0, 0, 0, 0, 0, 0] : List Int) = [0, 0, 0, 0, 0, 0, 0, 0, 0]) = true := decide_eq_true rfl
  simp -implicitDefEqProofs only [g5, g5_0, asI_i, asN_n, asL_l, asB_b, asE_nil, Bool.cond_decide, few_0, altK_0, altK_1, of_nil, lv_nil, decide_true, Bool.not_true, cond_false, loud_0, mean_0, if_true, awakeL_ok]
theorem levels_1 (l : List Int) (n : Nat) (hn : l.length = n) (h1 : 1 ≤ n) (hm : n < 9223372036854775808) : g5 (0, [.n n, .l l]) = some (0, [.b true, .l l]) := by
  have hlen : (fewV l).length = min 200 n := by rw [fewV_len, hn]
  have hf := few_ok l n hn h1 hm
  have hin := fewV_in l
  have hN : 1 ≤ min 200 n ∧ min 200 n ≤ 200 := by omega
  generalize fewV l = L at *
  generalize min 200 n = N at *
  have ho := of_ok L N hlen (by omega) (fun k => L.getD k 0) rfl hin
  have hl := lv_ok L N hlen (by omega) (fun k => L.getD k 0) rfl hin
  have hi := lvK_inv (fun k => L.getD k 0) N fun i _ => hin i
  generalize lvK (fun k => L.getD k 0) N = s at *
  obtain ⟨n, pk, lo, hi', sm, pw, cr, cl, ru, last, row⟩ := s
  unfold Inv at hi
  simp only [] at hi ho hl
  obtain ⟨i1, i2, i3, i4, i5, i6, i7, i8, i9, i10, i11⟩ := hi
  subst i1
  obtain ⟨⟨r, hr, r0, r1, r2, r3⟩, p0, p1⟩ := loud_ok (N : Int) pk lo hi' sm pw cr cl ru (by omega) (by omega)
  have hmn := mean_ok (N : Int) pk lo hi' sm pw cr cl ru (by omega) (by unfold In64; omega)
  have m1 : sm / N * N ≤ sm := Int.ediv_mul_le _ (by omega)
  have m2 : sm < (sm / N + 1) * N := Int.lt_ediv_add_one_mul_self _ (by omega)
  have m3 : (sm / N + 1) * N = sm / N * N + N := by rw [Int.add_mul, Int.one_mul]
  have m4 : -1048576 ≤ sm / N := Int.le_ediv_of_mul_le (by omega) (by omega)
  have m5 : sm / N ≤ 1048576 := Int.ediv_le_of_le_mul (by omega) (by omega)
  have hd : decide (([(N : Int), pk, lo, hi', sm, pw, cr, cl, ru] : List Int) = [(N : Int), pk, lo, hi', sm, pw, cr, cl, ru]) = true := decide_eq_true rfl
  have q1 : (r + 1) * (r + 1) = r * r + 2 * r + 1 := by grind
  have q2 : r * r ≤ 1048576 * 1048576 := Int.mul_le_mul r1 r1 r0 (by omega)
  have q0 : 0 ≤ r * r := Int.mul_nonneg r0 r0
  have w1 : IntKind.i64.wrap (r * r) = r * r := wrap64 (by omega) (by omega)
  have w2 : IntKind.i64.wrap (Int.tdiv pw N) = Int.tdiv pw N := wrap64 (by omega) (by omega)
  have w3 : IntKind.i64.wrap (r + 1) = r + 1 := wrap64 (by omega) (by omega)
  have w4 : IntKind.i64.wrap ((r + 1) * (r + 1)) = (r + 1) * (r + 1) := wrap64 (by omega) (by omega)
  have w5 : IntKind.i64.wrap (sm / N * N) = sm / N * N := wrap64 (by omega) (by omega)
  have w6 : IntKind.i64.wrap (sm / N + 1) = sm / N + 1 := wrap64 (by omega) (by omega)
  have w7 : IntKind.i64.wrap ((sm / N + 1) * N) = (sm / N + 1) * N := wrap64 (by omega) (by omega)
  simp -implicitDefEqProofs only [g5, g5_0, asI_i, asN_n, asL_l, asB_b, asE_nil, Bool.cond_decide, hf, altK_0, altK_1, ho, hl, decide_true, Bool.not_true, cond_false, if_neg (show ¬ (N : Int) = 0 by omega), hr, hmn, w1, w2, w3, w4, w5, w6, w7, if_pos r0, if_pos r2, if_pos r3, if_pos m1, if_pos m2, awakeL_ok]
theorem levels_l (l : List Int) (n : Nat) (hn : l.length = n * 1) (hm : n ≤ maxLen) : ∃ d, evF tab d 5 [.slice 0 0 n 1] [⟨false, .ints .i64 l⟩] = some (.bool true, [⟨false, .ints .i64 l⟩], []) := by
  have h : g5 (0, [.n n, .l l]) = some (0, [.b true, .l l]) := by
    unfold maxLen at hm
    by_cases c : n = 0
    · subst c; exact levels_0 l
    · exact levels_1 l n (by omega) (by omega) (by omega)
  exact ⟨_, (ok5 0).ret (i := 0) (ls := [.n n, .l l]) (j := 0) (r := [.b true, .l l]) h rfl rfl rfl rfl⟩
theorem levels_n : evF tab 30 5 [.nils] [] = some (.bool true, [], []) := by kernel_rfl
theorem levels_d : evF tab 30 5 [.slice 0 0 0 1] [⟨true, .unk⟩] = some (.bool true, [⟨true, .unk⟩], []) := by kernel_rfl
end Go.Proofs.Ytjekhbenohnpnaa
