/-
  What the functions under the laws of spectra compute. Conditions: none.
-/
import Derived.Test.YtmmfgbifbbiihaaDecS
import Derived.Test.YtmmfgbifbbiihaaFewS
import Derived.Test.YtmmfgbifbbiihaaLapM
import Derived.KernelRfl
namespace Go.Proofs.Ytmmfgbifbbiihaa
open Go Go.Sx S
set_option maxRecDepth 100000
set_option linter.unusedVariables false
attribute [local simp] asI_i asB_b asL_l asN_n asS_s asE_nil altK_none altK_0 altK_1 altK_2 altK_3 optK_some optK_none Bool.cond_decide Bool.cond_not Int.toNat_natCast
set_option linter.unusedSimpArgs false
def clV (x : Int) : Int := if 1048576 < x then Int.tmod x 1048576 else if x < -1048576 then Int.tmod x 1048576 else x
def fewV : List Int → List Int := fewL 200 clV
theorem fewV_len (l : List Int) : (fewV l).length = min 200 l.length := fewL_len _ _ _
theorem few_ok (l : List Int) (n : Nat) (hn : l.length = n) (h1 : 1 ≤ n) (hm : n < 9223372036854775808) : g10 (0, [.n n, .l l]) = some (1, [.n (min 200 n), .l l, .l (fewV l)]) := by
  have hl : L10_0 (0, [.n n, .i 0, .l l]) = some (3, [.n (min 200 n), .l l, .l (fewV l)]) := by
    refine few_loopS 4 3 (by omega) (f := f10_0) 200 clV l n hn h1 (by omega) (by omega) ?_ (fun k L k1 k2 k3 hL => ?_) (fun k L k1 k2 k3 hL => ?_)
    · have hx : l[Int.toNat 0]? = some (l.getD 0 0) := get_some (l := l) (i := 0) (by omega)
      have w : IntKind.i64.wrap ((0 : Int) + 1) = 1 := wrap_nat (n := 1) (by omega)
      generalize l.getD 0 0 = v at *
      simp -implicitDefEqProofs only [f10_0, f10_0_0, asN_n, asI_i, asL_l, asE_nil, Bool.cond_decide, if_pos (show (0 : Int) < n by omega), if_pos (show (0 : Int) < 200 by omega), if_pos (show (0 : Int) ≤ 0 ∧ (0 : Int) < n by omega), hx, optK_some, w, clV]
      by_cases c : 1048576 < v
      · rw [if_pos c, if_pos c]
      · rw [if_neg c, if_neg c]
        by_cases d : v < -1048576
        · rw [if_pos d, if_pos d]
        · rw [if_neg d, if_neg d]
    · have hx := get_some (l := l) (i := k) (by omega)
      have w : IntKind.i64.wrap ((k : Int) + 1) = ((k + 1 : Nat) : Int) := wrap_nat (n := k + 1) (by omega)
      generalize l.getD k 0 = v at *
      simp -implicitDefEqProofs only [f10_0, f10_0_3, asN_n, asI_i, asL_l, asE_nil, Bool.cond_decide, if_pos (show (k : Int) < n by omega), if_pos (show (k : Int) < 200 by omega), if_pos (show (0 : Int) ≤ k ∧ (k : Int) < n by omega), Int.toNat_natCast, hx, optK_some, w, if_pos (show (k + 1) * 8 ≤ 70368744177664 by omega), if_pos (show L.length = k * 1 by omega), clV]
      by_cases c : 1048576 < v
      · rw [if_pos c, if_pos c]
      · rw [if_neg c, if_neg c]
        by_cases d : v < -1048576
        · rw [if_pos d, if_pos d]
        · rw [if_neg d, if_neg d]
    · simp -implicitDefEqProofs only [f10_0, f10_0_3, asN_n, asI_i, asL_l, asE_nil, Bool.cond_decide]
      by_cases c : (k : Int) < n
      · rw [if_pos c, if_neg (by omega)]
      · rw [if_neg c]
  simp -implicitDefEqProofs only [g10, g10_0, asN_n, asL_l, asE_nil, hl, altK_3]
theorem few_0 (l : List Int) : g10 (0, [.n 0, .l l]) = some (0, [.l l]) := by
  have hl : L10_0 (0, [.n 0, .i 0, .l l]) = some (0, [.l l]) := loopL_last (m := 4) (f := f10_0) (j := 0) (by
    simp -implicitDefEqProofs only [f10_0, f10_0_0, asN_n, asI_i, asL_l, asE_nil, Bool.cond_decide, if_neg (show ¬ (0 : Int) < ((0 : Nat) : Int) by omega)])
  simp -implicitDefEqProofs only [g10, g10_0, asN_n, asL_l, asE_nil, hl, altK_0]
theorem few_nil : g10 (1, []) = some (2, []) := by kernel_rfl
theorem few_z : g10 (2, []) = some (3, []) := by kernel_rfl
theorem count_ok (N : Nat) (h1 : 1 ≤ N) (hm : N ≤ 1000) : g8 (0, [.i N]) = some (0, [.i ((N + 15) / 16 : Nat)]) := by
  have w1 : IntKind.i64.wrap ((N : Int) - 1) = (N : Int) - 1 := wrap64 (by omega) (by omega)
  have w2 : IntKind.i64.wrap (Int.tdiv ((N : Int) - 1) 16) = (((N - 1) / 16 : Nat) : Int) := by rw [Int.tdiv_eq_ediv_of_nonneg (by omega), wrap64 (by omega) (by omega)]; omega
  have w3 : IntKind.i64.wrap ((((N - 1) / 16 : Nat) : Int) + 1) = ((N + 15) / 16 : Nat) := by rw [wrap64 (by omega) (by omega)]; omega
  simp -implicitDefEqProofs only [g8, g8_0, asI_i, asE_nil, Bool.cond_decide, if_neg (show ¬ (N : Int) < 1 by omega), w1, w2, w3]
theorem count_0 : g8 (0, [.i 0]) = some (0, [.i 0]) := by kernel_rfl
/-- So many noughts, sixteen to a block. -/
theorem flat_rep (B : Nat) : List.flatten (List.replicate B ([0, 0, 0, 0, 0, 0, 0, 0, 0, 0, 0, 0, 0, 0, 0, 0] : List Int)) = List.replicate (16 * B) 0 := by
  induction B with
  | zero => rfl
  | succ B ih =>
    rw [List.replicate_succ, List.flatten_cons, ih, show ([0, 0, 0, 0, 0, 0, 0, 0, 0, 0, 0, 0, 0, 0, 0, 0] : List Int) = List.replicate 16 0 from rfl, List.replicate_append_replicate]
    congr 1
    omega
def padV (L : List Int) (m k : Nat) : List Int := List.take k L ++ List.replicate (m - k) 0
theorem pad_len {L : List Int} {m k : Nat} (h : k ≤ L.length) (hk : k ≤ m) : (padV L m k).length = m := by
  unfold padV
  rw [List.length_append, List.length_take, List.length_replicate]
  omega
theorem pad_set {L : List Int} {m k : Nat} {x : Int} (h : L[k]? = some x) (hk : k < m) (hL : k < L.length) : (padV L m k).set k x = padV L m (k + 1) := by
  unfold padV
  rw [take_snoc h, List.set_append, if_neg (by rw [List.length_take]; omega), List.length_take, show k - min k L.length = 0 by omega, List.append_assoc]
  congr 1
  rw [show m - k = (m - (k + 1)) + 1 by omega, List.replicate_succ]
  rfl
theorem pad_get {L : List Int} {m : Nat} {k : Nat} (hk : k < m) (hL : L.length ≤ m) : (padV L m L.length)[k]? = some (if k < L.length then L.getD k 0 else 0) := by
  unfold padV
  rw [List.take_length]
  split
  · rename_i c
    rw [List.getElem?_append_left c]
    exact get_some c
  · rename_i c
    rw [List.getElem?_append_right (by omega), List.getElem?_replicate, if_pos (by omega)]
theorem place (k : Nat) : k % 16 + k / 16 * 16 = k := by omega
theorem tm16 (k : Nat) : Int.tmod (k : Int) 16 = ((k % 16 : Nat) : Int) := by rw [Int.tmod_eq_emod_of_nonneg (by omega)]; omega
theorem td16 (k : Nat) (h : k ≤ 10000) : IntKind.i64.wrap (Int.tdiv (k : Int) 16) = ((k / 16 : Nat) : Int) := by rw [Int.tdiv_eq_ediv_of_nonneg (by omega), wrap64 (by omega) (by omega)]; omega
theorem blocks_ok (L : List Int) (N : Nat) (hN : L.length = N) (h1 : 1 ≤ N) (hm : N ≤ 200) : g11 (0, [.n N, .l L]) = some (0, [.n ((N + 15) / 16), .l L, .l (padV L (16 * ((N + 15) / 16)) N)]) := by
  have hc := count_ok N h1 (by omega)
  generalize hB : (N + 15) / 16 = B at *
  have hl : L11_0 (0, [.n B, .n N, .i N, .i 0, .l L, .l (padV L (16 * B) 0)]) = some (0, [.n B, .l L, .l (padV L (16 * B) N)]) := by
    refine loopL_run (m := 2) (f := f11_0) (fun k => (0, [.n B, .n N, .i N, .i k, .l L, .l (padV L (16 * B) k)])) N (fun k hk => ⟨?_, by show 0 < 2; omega⟩) ?_ (by omega)
    · have hx : L[k]? = some (L.getD k 0) := get_some (by omega)
      have w2 : IntKind.i64.wrap ((k : Int) + 1) = ((k + 1 : Nat) : Int) := wrap_nat (n := k + 1) (by omega)
      have hp := pad_set (m := 16 * B) hx (by omega) (by omega)
      have hpl := pad_len (L := L) (m := 16 * B) (k := k) (by omega) (by omega)
      generalize L.getD k 0 = v at *
      simp -implicitDefEqProofs only [f11_0, f11_0_0, asI_i, asN_n, asL_l, asB_b, asE_nil, Bool.cond_decide, if_pos (show (k : Int) < N by omega), if_pos (show (0 : Int) ≤ k ∧ (k : Int) < N by omega), Int.toNat_natCast, hx, optK_some, tm16, td16 k (by omega), if_pos (show (0 : Int) ≤ ((k / 16 : Nat) : Int) ∧ ((k / 16 : Nat) : Int) < (B : Nat) by omega), if_pos (show (0 : Int) ≤ ((k % 16 : Nat) : Int) ∧ ((k % 16 : Nat) : Int) < 16 by omega), place, if_pos (show k < (padV L (16 * B) k).length by omega), hp, w2]
    · simp -implicitDefEqProofs only [f11_0, f11_0_0, asI_i, asN_n, asL_l, asB_b, asE_nil, Bool.cond_decide, if_neg (Int.lt_irrefl _)]
  have e0 : padV L (16 * B) 0 = List.replicate (16 * B) 0 := rfl
  rw [e0] at hl
  simp -implicitDefEqProofs only [g11, g11_0, asI_i, asN_n, asL_l, asB_b, asE_nil, Bool.cond_decide, hc, altK_0, if_true, if_pos (show (0 : Int) ≤ (B : Nat) by omega), if_pos (show 128 * ((B : Nat) : Int) ≤ 140737488355328 by omega), if_pos (show ((B : Nat) : Int) ≤ 9223372036854775807 by omega), Int.toNat_natCast, flat_rep, hl]
theorem blocks_nil : g11 (1, []) = some (1, [.n 0, .l []]) := by kernel_rfl

/-! ### Gains -/
theorem take16 {l : List Int} (h : l.length = 16) : List.take 16 l = l := List.take_of_length_le (by omega)
theorem drop16' {l : List Int} (h : l.length = 16) : List.drop (0 + 16) l = [] := List.drop_of_length_le (by omega)
theorem take4 {l : List Int} (h : l.length = 4) : List.take 4 l = l := List.take_of_length_le (by omega)
theorem drop4 : List.drop (0 + 4) ([0, 0, 0, 0] : List Int) = [] := rfl
theorem drop16 : List.drop (0 + 16) ([0, 0, 0, 0, 0, 0, 0, 0, 0, 0, 0, 0, 0, 0, 0, 0] : List Int) = [] := rfl
def rightV (y : List Int) (k : Nat) : Bool := decide (0 ≤ y.getD k 0 ∧ y.getD k 0 ≤ 3)
def rightB (y : List Int) : Bool := (List.range 4).all (rightV y)
theorem right_ok (y : List Int) (hy : y.length = 4) : g38 (0, [.l y]) = some (0, [.b (rightB y)]) := by
  have hl : L38_0 (0, [.l y, .i 0, .l y]) = if rightB y then some (0, [.l y]) else some (1, [.l y]) := by
    refine loop1_all (fun k => [.l y, .i (k : Int), .l y]) (rightV y) 4 (fun k hk hp => ?_) (fun k hk hp => ?_) (by simp [f38_0, f38_0_0]) (by omega)
    all_goals
      have hx := get_some (l := y) (i := k) (by omega)
      have h1 : (k : Int) < 4 := by omega
      have h0 : (0 : Int) ≤ k ∧ (k : Int) < 4 := by omega
      have w2 : IntKind.i64.wrap ((k : Int) + 1) = ((k + 1 : Nat) : Int) := by rw [wrap64 (by omega) (by omega)]; rfl
      generalize hxv : y.getD k 0 = x at hx
      simp only [rightV, hxv, decide_eq_true_eq, decide_eq_false_iff_not] at hp
      simp -implicitDefEqProofs only [f38_0, f38_0_0, asI_i, asN_n, asL_l, asB_b, asE_nil, Bool.cond_decide, if_pos h1, if_pos h0, Int.toNat_natCast, hx, optK_some, w2]
    · rw [if_neg (by omega), if_neg (by omega)]
    · by_cases hn : x < 0
      · rw [if_pos hn]
      · rw [if_neg hn, if_pos (by omega)]
  cases hn : rightB y <;> rw [hn] at hl <;> simp -implicitDefEqProofs only [g38, g38_0, asI_i, asN_n, asL_l, asB_b, asE_nil, Bool.cond_decide, if_pos (show 4 ≤ y.length by omega), take4 hy, hl, if_true, if_false, Bool.false_eq_true, altK_0, altK_1]
def gAt (y : List Int) (j : Nat) : Int := if rightB y = true then y.getD (j / 4) 0 else 0
theorem gAt_in (y : List Int) (j : Nat) (hj : j < 16) : 0 ≤ gAt y j ∧ gAt y j ≤ 3 := by
  unfold gAt
  split
  · rename_i h
    have := List.all_eq_true.1 h (j / 4) (List.mem_range.2 (by omega))
    simpa [rightV] using this
  · omega
theorem td4 (k : Nat) (h : k ≤ 10000) : IntKind.i64.wrap (Int.tdiv (k : Int) 4) = ((k / 4 : Nat) : Int) := by rw [Int.tdiv_eq_ediv_of_nonneg (by omega), wrap64 (by omega) (by omega)]; omega
theorem gat_ok (y : List Int) (hy : y.length = 4) (j : Nat) (hj : j < 16) : g27 (0, [.l y, .i (j : Int)]) = some (0, [.i (gAt y j)]) := by
  have hx := get_some (l := y) (i := j / 4) (by omega)
  simp -implicitDefEqProofs only [g27, g27_0, asI_i, asN_n, asL_l, asB_b, asE_nil, Bool.cond_decide, if_neg (show ¬ (j : Int) < 0 by omega), if_neg (show ¬ (16 : Int) ≤ j by omega), if_pos (show 4 ≤ y.length by omega), take4 hy, right_ok y hy, altK_0, td4 j (by omega), if_pos (show (0 : Int) ≤ ((j / 4 : Nat) : Int) ∧ ((j / 4 : Nat) : Int) < 4 by omega), Int.toNat_natCast, hx, optK_some]
  unfold gAt
  cases rightB y
  · rfl
  · rfl
def upB (x y : List Int) : List Int := tbl 16 (fun j => upV (x.getD j 0) (gAt y j))
def dnB (x y : List Int) : List Int := tbl 16 (fun j => rndV (x.getD j 0) (gAt y j))
def Z16 : List Int := [0, 0, 0, 0, 0, 0, 0, 0, 0, 0, 0, 0, 0, 0, 0, 0]
theorem upB_len (x y : List Int) : (upB x y).length = 16 := tbl_len _ _
theorem dnB_len (x y : List Int) : (dnB x y).length = 16 := tbl_len _ _

theorem up_ok (x y : List Int) (hx16 : x.length = 16) (hy : y.length = 4) : g14 (0, [.l x, .l y]) = some (0, [.l (upB x y)]) := by
  have hv : (upB x y).length = x.length := by rw [upB_len, hx16]
  have hl : L14_0 (0, [.i 0, .l (mix (upB x y) x 0), .l y, .l [0, 0, 0, 0, 0, 0, 0, 0, 0, 0, 0, 0, 0, 0, 0, 0]]) = some (0, [.l (upB x y), .l y, .l [0, 0, 0, 0, 0, 0, 0, 0, 0, 0, 0, 0, 0, 0, 0, 0]]) := by
    refine loop1_run (fun k => [.i (k : Int), .l (mix (upB x y) x k), .l y, .l [0, 0, 0, 0, 0, 0, 0, 0, 0, 0, 0, 0, 0, 0, 0, 0]]) 16 (fun k hk => ?_) ?_ (by omega)
    · have hg := (mix_get hv (k := k) (by omega)).trans (get_some (l := x) (i := k) (by omega))
      have hs : (upB x y)[k]? = some (upV (x.getD k 0) (gAt y k)) := tbl_get hk
      have hm := mix_set hv (k := k) (by omega) hs
      have hlen := mix_len hv k
      have w2 : IntKind.i64.wrap ((k : Int) + 1) = ((k + 1 : Nat) : Int) := wrap_nat (n := k + 1) (by omega)
      have g0 := (gAt_in y k hk).1
      have hgat := gat_ok y hy k hk
      generalize gAt y k = a at *
      generalize x.getD k 0 = u at *
      simp -implicitDefEqProofs only [f14_0, f14_0_0, asI_i, asN_n, asL_l, asB_b, asE_nil, Bool.cond_decide, if_pos (show (k : Int) < 16 by omega), if_pos (show (0 : Int) ≤ k ∧ (k : Int) < 16 by omega), Int.toNat_natCast, hg, optK_some, if_pos (show 4 ≤ y.length by omega), take4 hy, hgat, altK_0, if_neg (show ¬ a < 0 by omega), if_pos (show k < (mix (upB x y) x k).length by omega), w2]
      rw [show shlI IntKind.i64 u a = upV u a from rfl, hm]
    · show f14_0 (0, [.i ((16 : Nat) : Int), .l (mix (upB x y) x 16), .l y, .l [0, 0, 0, 0, 0, 0, 0, 0, 0, 0, 0, 0, 0, 0, 0, 0]]) = _
      rw [show mix (upB x y) x 16 = upB x y by rw [← hx16]; exact mix_all hv]
      generalize upB x y = z
      kernel_rfl
  rw [mix_zero] at hl
  have e1 := upB_len x y
  generalize upB x y = z at *
  simp -implicitDefEqProofs only [g14, g14_0, asI_i, asN_n, asL_l, asB_b, asE_nil, Bool.cond_decide, hl, altK_0, e1, take16 e1, drop16, Nat.le_refl, List.append_nil, if_true, Nat.zero_add, drop16', show List.length ([0, 0, 0, 0, 0, 0, 0, 0, 0, 0, 0, 0, 0, 0, 0, 0] : List Int) = 16 from rfl, show List.drop 16 ([0, 0, 0, 0, 0, 0, 0, 0, 0, 0, 0, 0, 0, 0, 0, 0] : List Int) = [] from rfl]
theorem dn_ok (x y : List Int) (hx16 : x.length = 16) (hy : y.length = 4) : g35 (0, [.l x, .l y]) = some (0, [.l (dnB x y)]) := by
  have hv : (dnB x y).length = x.length := by rw [dnB_len, hx16]
  have hl : L35_0 (0, [.i 0, .l (mix (dnB x y) x 0), .l y, .l [0, 0, 0, 0, 0, 0, 0, 0, 0, 0, 0, 0, 0, 0, 0, 0]]) = some (0, [.l (dnB x y), .l y, .l [0, 0, 0, 0, 0, 0, 0, 0, 0, 0, 0, 0, 0, 0, 0, 0]]) := by
    refine loop1_run (fun k => [.i (k : Int), .l (mix (dnB x y) x k), .l y, .l [0, 0, 0, 0, 0, 0, 0, 0, 0, 0, 0, 0, 0, 0, 0, 0]]) 16 (fun k hk => ?_) ?_ (by omega)
    · have hg := (mix_get hv (k := k) (by omega)).trans (get_some (l := x) (i := k) (by omega))
      have hs : (dnB x y)[k]? = some (rndV (x.getD k 0) (gAt y k)) := tbl_get hk
      have hm := mix_set hv (k := k) (by omega) hs
      have hlen := mix_len hv k
      have w2 : IntKind.i64.wrap ((k : Int) + 1) = ((k + 1 : Nat) : Int) := wrap_nat (n := k + 1) (by omega)
      have g0 := (gAt_in y k hk).1
      have hgat := gat_ok y hy k hk
      have hr := rnd_g (x.getD k 0) (gAt y k) (gAt_in y k hk).1 (gAt_in y k hk).2
      generalize gAt y k = a at *
      generalize x.getD k 0 = u at *
      simp -implicitDefEqProofs only [f35_0, f35_0_0, asI_i, asN_n, asL_l, asB_b, asE_nil, Bool.cond_decide, if_pos (show (k : Int) < 16 by omega), if_pos (show (0 : Int) ≤ k ∧ (k : Int) < 16 by omega), Int.toNat_natCast, hg, optK_some, if_pos (show 4 ≤ y.length by omega), take4 hy, hgat, altK_0, hr, if_pos (show k < (mix (dnB x y) x k).length by omega), w2]
      rw [hm]
    · show f35_0 (0, [.i ((16 : Nat) : Int), .l (mix (dnB x y) x 16), .l y, .l [0, 0, 0, 0, 0, 0, 0, 0, 0, 0, 0, 0, 0, 0, 0, 0]]) = _
      rw [show mix (dnB x y) x 16 = dnB x y by rw [← hx16]; exact mix_all hv]
      generalize dnB x y = z
      kernel_rfl
  rw [mix_zero] at hl
  have e1 := dnB_len x y
  generalize dnB x y = z at *
  simp -implicitDefEqProofs only [g35, g35_0, asI_i, asN_n, asL_l, asB_b, asE_nil, Bool.cond_decide, hl, altK_0, e1, take16 e1, drop16, Nat.le_refl, List.append_nil, if_true, Nat.zero_add, drop16', show List.length ([0, 0, 0, 0, 0, 0, 0, 0, 0, 0, 0, 0, 0, 0, 0, 0] : List Int) = 16 from rfl, show List.drop 16 ([0, 0, 0, 0, 0, 0, 0, 0, 0, 0, 0, 0, 0, 0, 0, 0] : List Int) = [] from rfl]
end Go.Proofs.Ytmmfgbifbbiihaa
