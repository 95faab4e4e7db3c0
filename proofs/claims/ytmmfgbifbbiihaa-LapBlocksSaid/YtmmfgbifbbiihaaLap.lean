/-
  The law of samples in blocks. Conditions: none.
-/
import Derived.Test.YtmmfgbifbbiihaaDecA
import Derived.Test.YtmmfgbifbbiihaaFewS
import Derived.KernelRfl
namespace Go.Proofs.Ytmmfgbifbbiihaa
open Go Go.Sx
set_option maxRecDepth 100000
set_option linter.unusedVariables false
attribute [local simp] asI_i asB_b asL_l asN_n asS_s asE_nil altK_none altK_0 altK_1 altK_2 altK_3 optK_some optK_none Bool.cond_decide Bool.cond_not Int.toNat_natCast
set_option linter.unusedSimpArgs false
def clV (x : Int) : Int := if 1048576 < x then Int.tmod x 1048576 else if x < -1048576 then Int.tmod x 1048576 else x
def fewV : List Int → List Int := fewL 200 clV
theorem fewV_len (l : List Int) : (fewV l).length = min 200 l.length := fewL_len _ _ _
theorem few_ok (l : List Int) (n : Nat) (hn : l.length = n) (h1 : 1 ≤ n) (hm : n < 9223372036854775808) : g10 (0, [.n n, .l l]) = some (1, [.n (min 200 n), .l l, .l (fewV l)]) := by
  have hl : L10_0 (0, [.n n, .i 0, .l l]) = some (3, [.n (min 200 n), .l l, .l (fewV l)]) := by
    refine few_loopS 4 3 (by omega) (f := f10_0) 200 clV l n hn h1 (by omega) (by omega) ?_ (fun k L k1 k2 k3 hL => ?_) (fun k L k1 k2 k3 hL => ?_)
    · have hx : l[Int.toNat 0]? = some (l.getD 0 0) := get_some (l := l) (i := 0) (by omega)
      have w : IntKind.i64.wrap ((0 : Int) + 1) = 1 := wrap_nat (n := 1) (by omega)
      generalize l.getD 0 0 = v at *
      simp -implicitDefEqProofs only [f10_0, f10_0_0, asN_n, asI_i, asL_l, asE_nil, Bool.cond_decide, if_pos (show (0 : Int) < n by omega), if_pos (show (0 : Int) < 200 by omega), if_pos (show (0 : Int) ≤ 0 ∧ (0 : Int) < n by omega), hx, optK_some, w, clV]
      by_cases c : 1048576 < v
      · rw [if_pos c, if_pos c]
      · rw [if_neg c, if_neg c]
        by_cases d : v < -1048576
        · rw [if_pos d, if_pos d]
        · rw [if_neg d, if_neg d]
    · have hx := get_some (l := l) (i := k) (by omega)
      have w : IntKind.i64.wrap ((k : Int) + 1) = ((k + 1 : Nat) : Int) := wrap_nat (n := k + 1) (by omega)
      generalize l.getD k 0 = v at *
      simp -implicitDefEqProofs only [f10_0, f10_0_3, asN_n, asI_i, asL_l, asE_nil, Bool.cond_decide, if_pos (show (k : Int) < n by omega), if_pos (show (k : Int) < 200 by omega), if_pos (show (0 : Int) ≤ k ∧ (k : Int) < n by omega), Int.toNat_natCast, hx, optK_some, w, if_pos (show (k + 1) * 8 ≤ 70368744177664 by omega), if_pos (show L.length = k * 1 by omega), clV]
      by_cases c : 1048576 < v
      · rw [if_pos c, if_pos c]
      · rw [if_neg c, if_neg c]
        by_cases d : v < -1048576
        · rw [if_pos d, if_pos d]
        · rw [if_neg d, if_neg d]
    · simp -implicitDefEqProofs only [f10_0, f10_0_3, asN_n, asI_i, asL_l, asE_nil, Bool.cond_decide]
      by_cases c : (k : Int) < n
      · rw [if_pos c, if_neg (by omega)]
      · rw [if_neg c]
  simp -implicitDefEqProofs only [g10, g10_0, asN_n, asL_l, asE_nil, hl, altK_3]
theorem few_0 (l : List Int) : g10 (0, [.n 0, .l l]) = some (0, [.l l]) := by
  have hl : L10_0 (0, [.n 0, .i 0, .l l]) = some (0, [.l l]) := loopL_last (m := 4) (f := f10_0) (j := 0) (by
    simp -implicitDefEqProofs only [f10_0, f10_0_0, asN_n, asI_i, asL_l, asE_nil, Bool.cond_decide, if_neg (show ¬ (0 : Int) < ((0 : Nat) : Int) by omega)])
  simp -implicitDefEqProofs only [g10, g10_0, asN_n, asL_l, asE_nil, hl, altK_0]
theorem few_nil : g10 (1, []) = some (2, []) := by kernel_rfl
theorem few_z : g10 (2, []) = some (3, []) := by kernel_rfl
theorem count_ok (N : Nat) (h1 : 1 ≤ N) (hm : N ≤ 1000) : g8 (0, [.i N]) = some (0, [.i ((N + 15) / 16 : Nat)]) := by
  have w1 : IntKind.i64.wrap ((N : Int) - 1) = (N : Int) - 1 := wrap64 (by omega) (by omega)
  have w2 : IntKind.i64.wrap (Int.tdiv ((N : Int) - 1) 16) = (((N - 1) / 16 : Nat) : Int) := by rw [Int.tdiv_eq_ediv_of_nonneg (by omega), wrap64 (by omega) (by omega)]; omega
  have w3 : IntKind.i64.wrap ((((N - 1) / 16 : Nat) : Int) + 1) = ((N + 15) / 16 : Nat) := by rw [wrap64 (by omega) (by omega)]; omega
  simp -implicitDefEqProofs only [g8, g8_0, asI_i, asE_nil, Bool.cond_decide, if_neg (show ¬ (N : Int) < 1 by omega), w1, w2, w3]
theorem count_0 : g8 (0, [.i 0]) = some (0, [.i 0]) := by kernel_rfl
/-- So many noughts, sixteen to a block. -/
theorem flat_rep (B : Nat) : List.flatten (List.replicate B ([0, 0, 0, 0, 0, 0, 0, 0, 0, 0, 0, 0, 0, 0, 0, 0] : List Int)) = List.replicate (16 * B) 0 := by
  induction B with
  | zero => rfl
  | succ B ih =>
    rw [List.replicate_succ, List.flatten_cons, ih, show ([0, 0, 0, 0, 0, 0, 0, 0, 0, 0, 0, 0, 0, 0, 0, 0] : List Int) = List.replicate 16 0 from rfl, List.replicate_append_replicate]
    congr 1
    omega
def padV (L : List Int) (m k : Nat) : List Int := List.take k L ++ List.replicate (m - k) 0
theorem pad_len {L : List Int} {m k : Nat} (h : k ≤ L.length) (hk : k ≤ m) : (padV L m k).length = m := by
  unfold padV
  rw [List.length_append, List.length_take, List.length_replicate]
  omega
theorem pad_set {L : List Int} {m k : Nat} {x : Int} (h : L[k]? = some x) (hk : k < m) (hL : k < L.length) : (padV L m k).set k x = padV L m (k + 1) := by
  unfold padV
  rw [take_snoc h, List.set_append, if_neg (by rw [List.length_take]; omega), List.length_take, show k - min k L.length = 0 by omega, List.append_assoc]
  congr 1
  rw [show m - k = (m - (k + 1)) + 1 by omega, List.replicate_succ]
  rfl
theorem pad_get {L : List Int} {m : Nat} {k : Nat} (hk : k < m) (hL : L.length ≤ m) : (padV L m L.length)[k]? = some (if k < L.length then L.getD k 0 else 0) := by
  unfold padV
  rw [List.take_length]
  split
  · rename_i c
    rw [List.getElem?_append_left c]
    exact get_some c
  · rename_i c
    rw [List.getElem?_append_right (by omega), List.getElem?_replicate, if_pos (by omega)]
theorem place (k : Nat) : k % 16 + k / 16 * 16 = k := by omega
theorem tm16 (k : Nat) : Int.tmod (k : Int) 16 = ((k % 16 : Nat) : Int) := by rw [Int.tmod_eq_emod_of_nonneg (by omega)]; omega
theorem td16 (k : Nat) (h : k ≤ 10000) : IntKind.i64.wrap (Int.tdiv (k : Int) 16) = ((k / 16 : Nat) : Int) := by rw [Int.tdiv_eq_ediv_of_nonneg (by omega), wrap64 (by omega) (by omega)]; omega
theorem blocks_ok (L : List Int) (N : Nat) (hN : L.length = N) (h1 : 1 ≤ N) (hm : N ≤ 200) : g11 (0, [.n N, .l L]) = some (0, [.n ((N + 15) / 16), .l L, .l (padV L (16 * ((N + 15) / 16)) N)]) := by
  have hc := count_ok N h1 (by omega)
  generalize hB : (N + 15) / 16 = B at *
  have hl : L11_0 (0, [.n B, .n N, .i N, .i 0, .l L, .l (padV L (16 * B) 0)]) = some (0, [.n B, .l L, .l (padV L (16 * B) N)]) := by
    refine loopL_run (m := 2) (f := f11_0) (fun k => (0, [.n B, .n N, .i N, .i k, .l L, .l (padV L (16 * B) k)])) N (fun k hk => ⟨?_, by show 0 < 2; omega⟩) ?_ (by omega)
    · have hx : L[k]? = some (L.getD k 0) := get_some (by omega)
      have w2 : IntKind.i64.wrap ((k : Int) + 1) = ((k + 1 : Nat) : Int) := wrap_nat (n := k + 1) (by omega)
      have hp := pad_set (m := 16 * B) hx (by omega) (by omega)
      have hpl := pad_len (L := L) (m := 16 * B) (k := k) (by omega) (by omega)
      generalize L.getD k 0 = v at *
      simp -implicitDefEqProofs only [f11_0, f11_0_0, asI_i, asN_n, asL_l, asB_b, asE_nil, Bool.cond_decide, if_pos (show (k : Int) < N by omega), if_pos (show (0 : Int) ≤ k ∧ (k : Int) < N by omega), Int.toNat_natCast, hx, optK_some, tm16, td16 k (by omega), if_pos (show (0 : Int) ≤ ((k / 16 : Nat) : Int) ∧ ((k / 16 : Nat) : Int) < (B : Nat) by omega), if_pos (show (0 : Int) ≤ ((k % 16 : Nat) : Int) ∧ ((k % 16 : Nat) : Int) < 16 by omega), place, if_pos (show k < (padV L (16 * B) k).length by omega), hp, w2]
    · simp -implicitDefEqProofs only [f11_0, f11_0_0, asI_i, asN_n, asL_l, asB_b, asE_nil, Bool.cond_decide, if_neg (Int.lt_irrefl _)]
  have e0 : padV L (16 * B) 0 = List.replicate (16 * B) 0 := rfl
  rw [e0] at hl
  simp -implicitDefEqProofs only [g11, g11_0, asI_i, asN_n, asL_l, asB_b, asE_nil, Bool.cond_decide, hc, altK_0, if_true, if_pos (show (0 : Int) ≤ (B : Nat) by omega), if_pos (show 128 * ((B : Nat) : Int) ≤ 140737488355328 by omega), if_pos (show ((B : Nat) : Int) ≤ 9223372036854775807 by omega), Int.toNat_natCast, flat_rep, hl]
theorem blocks_nil : g11 (1, []) = some (1, [.n 0, .l []]) := by kernel_rfl
def chV (P : List Int) (j : Nat) : List Int := List.take 16 (List.drop (j * 16) P)
theorem ch_len {P : List Int} {j : Nat} (h : (j + 1) * 16 ≤ P.length) : (chV P j).length = 16 := by
  unfold chV
  rw [List.length_take, List.length_drop]
  omega
theorem take_ch (P : List Int) (j : Nat) : List.take ((j + 1) * 16) P = List.take (j * 16) P ++ chV P j := by
  unfold chV
  rw [show (j + 1) * 16 = j * 16 + 16 by omega, List.take_add]
theorem drop16 : List.drop (0 + 16) ([0, 0, 0, 0, 0, 0, 0, 0, 0, 0, 0, 0, 0, 0, 0, 0] : List Int) = [] := rfl
theorem altK_7w {α : Type} (r : List Leaf) (k0 k1 k2 k3 k4 k5 k6 k7 : List Leaf → α) (ks : List (List Leaf → α)) (z : α) : altK (some (7, r)) (k0 :: k1 :: k2 :: k3 :: k4 :: k5 :: k6 :: k7 :: ks) z = k7 r := rfl
theorem altK_8w {α : Type} (r : List Leaf) (k0 k1 k2 k3 k4 k5 k6 k7 k8 : List Leaf → α) (ks : List (List Leaf → α)) (z : α) : altK (some (8, r)) (k0 :: k1 :: k2 :: k3 :: k4 :: k5 :: k6 :: k7 :: k8 :: ks) z = k8 r := rfl
theorem altK_9w {α : Type} (r : List Leaf) (k0 k1 k2 k3 k4 k5 k6 k7 k8 k9 : List Leaf → α) (ks : List (List Leaf → α)) (z : α) : altK (some (9, r)) (k0 :: k1 :: k2 :: k3 :: k4 :: k5 :: k6 :: k7 :: k8 :: k9 :: ks) z = k9 r := rfl
theorem altK_10w {α : Type} (r : List Leaf) (k0 k1 k2 k3 k4 k5 k6 k7 k8 k9 k10 : List Leaf → α) (ks : List (List Leaf → α)) (z : α) : altK (some (10, r)) (k0 :: k1 :: k2 :: k3 :: k4 :: k5 :: k6 :: k7 :: k8 :: k9 :: k10 :: ks) z = k10 r := rfl
theorem altK_11w {α : Type} (r : List Leaf) (k0 k1 k2 k3 k4 k5 k6 k7 k8 k9 k10 k11 : List Leaf → α) (ks : List (List Leaf → α)) (z : α) : altK (some (11, r)) (k0 :: k1 :: k2 :: k3 :: k4 :: k5 :: k6 :: k7 :: k8 :: k9 :: k10 :: k11 :: ks) z = k11 r := rfl
theorem altK_12w {α : Type} (r : List Leaf) (k0 k1 k2 k3 k4 k5 k6 k7 k8 k9 k10 k11 k12 : List Leaf → α) (ks : List (List Leaf → α)) (z : α) : altK (some (12, r)) (k0 :: k1 :: k2 :: k3 :: k4 :: k5 :: k6 :: k7 :: k8 :: k9 :: k10 :: k11 :: k12 :: ks) z = k12 r := rfl
theorem altK_13w {α : Type} (r : List Leaf) (k0 k1 k2 k3 k4 k5 k6 k7 k8 k9 k10 k11 k12 k13 : List Leaf → α) (ks : List (List Leaf → α)) (z : α) : altK (some (13, r)) (k0 :: k1 :: k2 :: k3 :: k4 :: k5 :: k6 :: k7 :: k8 :: k9 :: k10 :: k11 :: k12 :: k13 :: ks) z = k13 r := rfl
theorem sm_step_0 (a : Int) (B : Nat) (P : List Int) (hB : 0 < B) (hm : B ≤ 13) (hP : P.length = 16 * B) : f12_0 (0, [.i a, .n B, .i ((B : Nat) : Int), .i 0, .l P]) = some (1, [.i a, .n (1 * 16), .n B, .i ((B : Nat) : Int), .i (1 : Nat), .l P, .l (chV P 0), .l (List.take (1 * 16) P)]) := by
  have hc : List.length (List.take 16 (List.drop (0 * 16) P)) = 16 := ch_len (P := P) (j := 0) (by omega)
  have ht := take_ch P 0
  have e16 : List.take 16 (List.take 16 (List.drop (0 * 16) P)) = List.take 16 (List.drop (0 * 16) P) := List.take_of_length_le (by omega)
  have w2 : IntKind.i64.wrap ((0 : Int) + 1) = ((1 : Nat) : Int) := wrap_nat (n := 1) (by omega)
  have t0 : Int.toNat 0 = 0 := rfl
  have h0 : List.take (1 * 16) P = chV P 0 := by rw [show 1 * 16 = (0 + 1) * 16 from rfl, ht]; rw [show List.take (0 * 16) P = [] by simp]; rfl
  simp -implicitDefEqProofs only [f12_0, f12_0_0, asI_i, asN_n, asL_l, asB_b, asE_nil, Bool.cond_decide, if_pos (show 0 < (B : Int) by omega), if_pos (show (0 : Int) ≤ 0 ∧ 0 < (B : Int) by omega), t0, if_pos (show 0 * 16 + 16 ≤ P.length by omega), hc, if_true, if_pos (show 0 + 16 ≤ 16 by omega), drop16, List.append_nil, if_pos (show 16 ≤ 16 by omega), e16, w2]
  rw [h0]
  rfl
theorem sm_step_1 (a : Int) (B : Nat) (P : List Int) (hB : 1 < B) (hm : B ≤ 13) (hP : P.length = 16 * B) : f12_0 (1, [.i a, .n (1 * 16), .n B, .i ((B : Nat) : Int), .i (1 : Nat), .l P, .l (chV P 0), .l (List.take (1 * 16) P)]) = some (2, [.i a, .n (2 * 16), .n B, .i ((B : Nat) : Int), .i (2 : Nat), .l P, .l (chV P 0), .l (List.take (2 * 16) P), .l (chV P 1)]) := by
  have hc : List.length (List.take 16 (List.drop (1 * 16) P)) = 16 := ch_len (P := P) (j := 1) (by omega)
  have ht := take_ch P 1
  have e16 : List.take 16 (List.take 16 (List.drop (1 * 16) P)) = List.take 16 (List.drop (1 * 16) P) := List.take_of_length_le (by omega)
  have w2 : IntKind.i64.wrap ((((1 : Nat) : Int) : Int) + 1) = ((2 : Nat) : Int) := wrap_nat (n := 2) (by omega)
  simp -implicitDefEqProofs only [f12_0, f12_0_1, asI_i, asN_n, asL_l, asB_b, asE_nil, Bool.cond_decide, if_pos (show ((1 : Nat) : Int) < (B : Int) by omega), if_pos (show (0 : Int) ≤ ((1 : Nat) : Int) ∧ ((1 : Nat) : Int) < (B : Int) by omega), Int.toNat_natCast, if_pos (show 1 * 16 + 16 ≤ P.length by omega), hc, if_true, if_pos (show 0 + 16 ≤ 16 by omega), drop16, List.append_nil, if_pos (show 16 ≤ 16 by omega), e16, if_pos (show (1 * 16 + 16) * 8 ≤ 70368744177664 by omega), if_pos (show (List.take (1 * 16) P).length = 1 * 16 * 1 by rw [List.length_take]; omega), w2]
  rw [show (1 + 1) * 16 = 2 * 16 from rfl] at ht
  rw [ht]
  rfl
theorem sm_step_2 (a : Int) (B : Nat) (P : List Int) (hB : 2 < B) (hm : B ≤ 13) (hP : P.length = 16 * B) : f12_0 (2, [.i a, .n (2 * 16), .n B, .i ((B : Nat) : Int), .i (2 : Nat), .l P, .l (chV P 0), .l (List.take (2 * 16) P), .l (chV P 1)]) = some (3, [.i a, .n (3 * 16), .n B, .i ((B : Nat) : Int), .i (3 : Nat), .l P, .l (chV P 0), .l (List.take (3 * 16) P), .l (chV P 1), .l (chV P 2)]) := by
  have hc : List.length (List.take 16 (List.drop (2 * 16) P)) = 16 := ch_len (P := P) (j := 2) (by omega)
  have ht := take_ch P 2
  have e16 : List.take 16 (List.take 16 (List.drop (2 * 16) P)) = List.take 16 (List.drop (2 * 16) P) := List.take_of_length_le (by omega)
  have w2 : IntKind.i64.wrap ((((2 : Nat) : Int) : Int) + 1) = ((3 : Nat) : Int) := wrap_nat (n := 3) (by omega)
  simp -implicitDefEqProofs only [f12_0, f12_0_2, asI_i, asN_n, asL_l, asB_b, asE_nil, Bool.cond_decide, if_pos (show ((2 : Nat) : Int) < (B : Int) by omega), if_pos (show (0 : Int) ≤ ((2 : Nat) : Int) ∧ ((2 : Nat) : Int) < (B : Int) by omega), Int.toNat_natCast, if_pos (show 2 * 16 + 16 ≤ P.length by omega), hc, if_true, if_pos (show 0 + 16 ≤ 16 by omega), drop16, List.append_nil, if_pos (show 16 ≤ 16 by omega), e16, if_pos (show (2 * 16 + 16) * 8 ≤ 70368744177664 by omega), if_pos (show (List.take (2 * 16) P).length = 2 * 16 * 1 by rw [List.length_take]; omega), w2]
  rw [show (2 + 1) * 16 = 3 * 16 from rfl] at ht
  rw [ht]
  rfl
theorem sm_step_3 (a : Int) (B : Nat) (P : List Int) (hB : 3 < B) (hm : B ≤ 13) (hP : P.length = 16 * B) : f12_0 (3, [.i a, .n (3 * 16), .n B, .i ((B : Nat) : Int), .i (3 : Nat), .l P, .l (chV P 0), .l (List.take (3 * 16) P), .l (chV P 1), .l (chV P 2)]) = some (4, [.i a, .n (4 * 16), .n B, .i ((B : Nat) : Int), .i (4 : Nat), .l P, .l (chV P 0), .l (List.take (4 * 16) P), .l (chV P 1), .l (chV P 2), .l (chV P 3)]) := by
  have hc : List.length (List.take 16 (List.drop (3 * 16) P)) = 16 := ch_len (P := P) (j := 3) (by omega)
  have ht := take_ch P 3
  have e16 : List.take 16 (List.take 16 (List.drop (3 * 16) P)) = List.take 16 (List.drop (3 * 16) P) := List.take_of_length_le (by omega)
  have w2 : IntKind.i64.wrap ((((3 : Nat) : Int) : Int) + 1) = ((4 : Nat) : Int) := wrap_nat (n := 4) (by omega)
  simp -implicitDefEqProofs only [f12_0, f12_0_3, asI_i, asN_n, asL_l, asB_b, asE_nil, Bool.cond_decide, if_pos (show ((3 : Nat) : Int) < (B : Int) by omega), if_pos (show (0 : Int) ≤ ((3 : Nat) : Int) ∧ ((3 : Nat) : Int) < (B : Int) by omega), Int.toNat_natCast, if_pos (show 3 * 16 + 16 ≤ P.length by omega), hc, if_true, if_pos (show 0 + 16 ≤ 16 by omega), drop16, List.append_nil, if_pos (show 16 ≤ 16 by omega), e16, if_pos (show (3 * 16 + 16) * 8 ≤ 70368744177664 by omega), if_pos (show (List.take (3 * 16) P).length = 3 * 16 * 1 by rw [List.length_take]; omega), w2]
  rw [show (3 + 1) * 16 = 4 * 16 from rfl] at ht
  rw [ht]
  rfl
theorem sm_step_4 (a : Int) (B : Nat) (P : List Int) (hB : 4 < B) (hm : B ≤ 13) (hP : P.length = 16 * B) : f12_0 (4, [.i a, .n (4 * 16), .n B, .i ((B : Nat) : Int), .i (4 : Nat), .l P, .l (chV P 0), .l (List.take (4 * 16) P), .l (chV P 1), .l (chV P 2), .l (chV P 3)]) = some (5, [.i a, .n (5 * 16), .n B, .i ((B : Nat) : Int), .i (5 : Nat), .l P, .l (chV P 0), .l (List.take (5 * 16) P), .l (chV P 1), .l (chV P 2), .l (chV P 3), .l (chV P 4)]) := by
  have hc : List.length (List.take 16 (List.drop (4 * 16) P)) = 16 := ch_len (P := P) (j := 4) (by omega)
  have ht := take_ch P 4
  have e16 : List.take 16 (List.take 16 (List.drop (4 * 16) P)) = List.take 16 (List.drop (4 * 16) P) := List.take_of_length_le (by omega)
  have w2 : IntKind.i64.wrap ((((4 : Nat) : Int) : Int) + 1) = ((5 : Nat) : Int) := wrap_nat (n := 5) (by omega)
  simp -implicitDefEqProofs only [f12_0, f12_0_4, asI_i, asN_n, asL_l, asB_b, asE_nil, Bool.cond_decide, if_pos (show ((4 : Nat) : Int) < (B : Int) by omega), if_pos (show (0 : Int) ≤ ((4 : Nat) : Int) ∧ ((4 : Nat) : Int) < (B : Int) by omega), Int.toNat_natCast, if_pos (show 4 * 16 + 16 ≤ P.length by omega), hc, if_true, if_pos (show 0 + 16 ≤ 16 by omega), drop16, List.append_nil, if_pos (show 16 ≤ 16 by omega), e16, if_pos (show (4 * 16 + 16) * 8 ≤ 70368744177664 by omega), if_pos (show (List.take (4 * 16) P).length = 4 * 16 * 1 by rw [List.length_take]; omega), w2]
  rw [show (4 + 1) * 16 = 5 * 16 from rfl] at ht
  rw [ht]
  rfl
theorem sm_step_5 (a : Int) (B : Nat) (P : List Int) (hB : 5 < B) (hm : B ≤ 13) (hP : P.length = 16 * B) : f12_0 (5, [.i a, .n (5 * 16), .n B, .i ((B : Nat) : Int), .i (5 : Nat), .l P, .l (chV P 0), .l (List.take (5 * 16) P), .l (chV P 1), .l (chV P 2), .l (chV P 3), .l (chV P 4)]) = some (6, [.i a, .n (6 * 16), .n B, .i ((B : Nat) : Int), .i (6 : Nat), .l P, .l (chV P 0), .l (List.take (6 * 16) P), .l (chV P 1), .l (chV P 2), .l (chV P 3), .l (chV P 4), .l (chV P 5)]) := by
  have hc : List.length (List.take 16 (List.drop (5 * 16) P)) = 16 := ch_len (P := P) (j := 5) (by omega)
  have ht := take_ch P 5
  have e16 : List.take 16 (List.take 16 (List.drop (5 * 16) P)) = List.take 16 (List.drop (5 * 16) P) := List.take_of_length_le (by omega)
  have w2 : IntKind.i64.wrap ((((5 : Nat) : Int) : Int) + 1) = ((6 : Nat) : Int) := wrap_nat (n := 6) (by omega)
  simp -implicitDefEqProofs only [f12_0, f12_0_5, asI_i, asN_n, asL_l, asB_b, asE_nil, Bool.cond_decide, if_pos (show ((5 : Nat) : Int) < (B : Int) by omega), if_pos (show (0 : Int) ≤ ((5 : Nat) : Int) ∧ ((5 : Nat) : Int) < (B : Int) by omega), Int.toNat_natCast, if_pos (show 5 * 16 + 16 ≤ P.length by omega), hc, if_true, if_pos (show 0 + 16 ≤ 16 by omega), drop16, List.append_nil, if_pos (show 16 ≤ 16 by omega), e16, if_pos (show (5 * 16 + 16) * 8 ≤ 70368744177664 by omega), if_pos (show (List.take (5 * 16) P).length = 5 * 16 * 1 by rw [List.length_take]; omega), w2]
  rw [show (5 + 1) * 16 = 6 * 16 from rfl] at ht
  rw [ht]
  rfl
theorem sm_step_6 (a : Int) (B : Nat) (P : List Int) (hB : 6 < B) (hm : B ≤ 13) (hP : P.length = 16 * B) : f12_0 (6, [.i a, .n (6 * 16), .n B, .i ((B : Nat) : Int), .i (6 : Nat), .l P, .l (chV P 0), .l (List.take (6 * 16) P), .l (chV P 1), .l (chV P 2), .l (chV P 3), .l (chV P 4), .l (chV P 5)]) = some (7, [.i a, .n (7 * 16), .n B, .i ((B : Nat) : Int), .i (7 : Nat), .l P, .l (chV P 0), .l (List.take (7 * 16) P), .l (chV P 1), .l (chV P 2), .l (chV P 3), .l (chV P 4), .l (chV P 5), .l (chV P 6)]) := by
  have hc : List.length (List.take 16 (List.drop (6 * 16) P)) = 16 := ch_len (P := P) (j := 6) (by omega)
  have ht := take_ch P 6
  have e16 : List.take 16 (List.take 16 (List.drop (6 * 16) P)) = List.take 16 (List.drop (6 * 16) P) := List.take_of_length_le (by omega)
  have w2 : IntKind.i64.wrap ((((6 : Nat) : Int) : Int) + 1) = ((7 : Nat) : Int) := wrap_nat (n := 7) (by omega)
  simp -implicitDefEqProofs only [f12_0, f12_0_6, asI_i, asN_n, asL_l, asB_b, asE_nil, Bool.cond_decide, if_pos (show ((6 : Nat) : Int) < (B : Int) by omega), if_pos (show (0 : Int) ≤ ((6 : Nat) : Int) ∧ ((6 : Nat) : Int) < (B : Int) by omega), Int.toNat_natCast, if_pos (show 6 * 16 + 16 ≤ P.length by omega), hc, if_true, if_pos (show 0 + 16 ≤ 16 by omega), drop16, List.append_nil, if_pos (show 16 ≤ 16 by omega), e16, if_pos (show (6 * 16 + 16) * 8 ≤ 70368744177664 by omega), if_pos (show (List.take (6 * 16) P).length = 6 * 16 * 1 by rw [List.length_take]; omega), w2]
  rw [show (6 + 1) * 16 = 7 * 16 from rfl] at ht
  rw [ht]
  rfl
theorem sm_step_7 (a : Int) (B : Nat) (P : List Int) (hB : 7 < B) (hm : B ≤ 13) (hP : P.length = 16 * B) : f12_0 (7, [.i a, .n (7 * 16), .n B, .i ((B : Nat) : Int), .i (7 : Nat), .l P, .l (chV P 0), .l (List.take (7 * 16) P), .l (chV P 1), .l (chV P 2), .l (chV P 3), .l (chV P 4), .l (chV P 5), .l (chV P 6)]) = some (8, [.i a, .n (8 * 16), .n B, .i ((B : Nat) : Int), .i (8 : Nat), .l P, .l (chV P 0), .l (List.take (8 * 16) P), .l (chV P 1), .l (chV P 2), .l (chV P 3), .l (chV P 4), .l (chV P 5), .l (chV P 6), .l (chV P 7)]) := by
  have hc : List.length (List.take 16 (List.drop (7 * 16) P)) = 16 := ch_len (P := P) (j := 7) (by omega)
  have ht := take_ch P 7
  have e16 : List.take 16 (List.take 16 (List.drop (7 * 16) P)) = List.take 16 (List.drop (7 * 16) P) := List.take_of_length_le (by omega)
  have w2 : IntKind.i64.wrap ((((7 : Nat) : Int) : Int) + 1) = ((8 : Nat) : Int) := wrap_nat (n := 8) (by omega)
  simp -implicitDefEqProofs only [f12_0, f12_0_7, asI_i, asN_n, asL_l, asB_b, asE_nil, Bool.cond_decide, if_pos (show ((7 : Nat) : Int) < (B : Int) by omega), if_pos (show (0 : Int) ≤ ((7 : Nat) : Int) ∧ ((7 : Nat) : Int) < (B : Int) by omega), Int.toNat_natCast, if_pos (show 7 * 16 + 16 ≤ P.length by omega), hc, if_true, if_pos (show 0 + 16 ≤ 16 by omega), drop16, List.append_nil, if_pos (show 16 ≤ 16 by omega), e16, if_pos (show (7 * 16 + 16) * 8 ≤ 70368744177664 by omega), if_pos (show (List.take (7 * 16) P).length = 7 * 16 * 1 by rw [List.length_take]; omega), w2]
  rw [show (7 + 1) * 16 = 8 * 16 from rfl] at ht
  rw [ht]
  rfl
theorem sm_step_8 (a : Int) (B : Nat) (P : List Int) (hB : 8 < B) (hm : B ≤ 13) (hP : P.length = 16 * B) : f12_0 (8, [.i a, .n (8 * 16), .n B, .i ((B : Nat) : Int), .i (8 : Nat), .l P, .l (chV P 0), .l (List.take (8 * 16) P), .l (chV P 1), .l (chV P 2), .l (chV P 3), .l (chV P 4), .l (chV P 5), .l (chV P 6), .l (chV P 7)]) = some (9, [.i a, .n (9 * 16), .n B, .i ((B : Nat) : Int), .i (9 : Nat), .l P, .l (chV P 0), .l (List.take (9 * 16) P), .l (chV P 1), .l (chV P 2), .l (chV P 3), .l (chV P 4), .l (chV P 5), .l (chV P 6), .l (chV P 7), .l (chV P 8)]) := by
  have hc : List.length (List.take 16 (List.drop (8 * 16) P)) = 16 := ch_len (P := P) (j := 8) (by omega)
  have ht := take_ch P 8
  have e16 : List.take 16 (List.take 16 (List.drop (8 * 16) P)) = List.take 16 (List.drop (8 * 16) P) := List.take_of_length_le (by omega)
  have w2 : IntKind.i64.wrap ((((8 : Nat) : Int) : Int) + 1) = ((9 : Nat) : Int) := wrap_nat (n := 9) (by omega)
  simp -implicitDefEqProofs only [f12_0, f12_0_8, asI_i, asN_n, asL_l, asB_b, asE_nil, Bool.cond_decide, if_pos (show ((8 : Nat) : Int) < (B : Int) by omega), if_pos (show (0 : Int) ≤ ((8 : Nat) : Int) ∧ ((8 : Nat) : Int) < (B : Int) by omega), Int.toNat_natCast, if_pos (show 8 * 16 + 16 ≤ P.length by omega), hc, if_true, if_pos (show 0 + 16 ≤ 16 by omega), drop16, List.append_nil, if_pos (show 16 ≤ 16 by omega), e16, if_pos (show (8 * 16 + 16) * 8 ≤ 70368744177664 by omega), if_pos (show (List.take (8 * 16) P).length = 8 * 16 * 1 by rw [List.length_take]; omega), w2]
  rw [show (8 + 1) * 16 = 9 * 16 from rfl] at ht
  rw [ht]
  rfl
theorem sm_step_9 (a : Int) (B : Nat) (P : List Int) (hB : 9 < B) (hm : B ≤ 13) (hP : P.length = 16 * B) : f12_0 (9, [.i a, .n (9 * 16), .n B, .i ((B : Nat) : Int), .i (9 : Nat), .l P, .l (chV P 0), .l (List.take (9 * 16) P), .l (chV P 1), .l (chV P 2), .l (chV P 3), .l (chV P 4), .l (chV P 5), .l (chV P 6), .l (chV P 7), .l (chV P 8)]) = some (10, [.i a, .n (10 * 16), .n B, .i ((B : Nat) : Int), .i (10 : Nat), .l P, .l (chV P 0), .l (List.take (10 * 16) P), .l (chV P 1), .l (chV P 2), .l (chV P 3), .l (chV P 4), .l (chV P 5), .l (chV P 6), .l (chV P 7), .l (chV P 8), .l (chV P 9)]) := by
  have hc : List.length (List.take 16 (List.drop (9 * 16) P)) = 16 := ch_len (P := P) (j := 9) (by omega)
  have ht := take_ch P 9
  have e16 : List.take 16 (List.take 16 (List.drop (9 * 16) P)) = List.take 16 (List.drop (9 * 16) P) := List.take_of_length_le (by omega)
  have w2 : IntKind.i64.wrap ((((9 : Nat) : Int) : Int) + 1) = ((10 : Nat) : Int) := wrap_nat (n := 10) (by omega)
  simp -implicitDefEqProofs only [f12_0, f12_0_9, asI_i, asN_n, asL_l, asB_b, asE_nil, Bool.cond_decide, if_pos (show ((9 : Nat) : Int) < (B : Int) by omega), if_pos (show (0 : Int) ≤ ((9 : Nat) : Int) ∧ ((9 : Nat) : Int) < (B : Int) by omega), Int.toNat_natCast, if_pos (show 9 * 16 + 16 ≤ P.length by omega), hc, if_true, if_pos (show 0 + 16 ≤ 16 by omega), drop16, List.append_nil, if_pos (show 16 ≤ 16 by omega), e16, if_pos (show (9 * 16 + 16) * 8 ≤ 70368744177664 by omega), if_pos (show (List.take (9 * 16) P).length = 9 * 16 * 1 by rw [List.length_take]; omega), w2]
  rw [show (9 + 1) * 16 = 10 * 16 from rfl] at ht
  rw [ht]
  rfl
theorem sm_step_10 (a : Int) (B : Nat) (P : List Int) (hB : 10 < B) (hm : B ≤ 13) (hP : P.length = 16 * B) : f12_0 (10, [.i a, .n (10 * 16), .n B, .i ((B : Nat) : Int), .i (10 : Nat), .l P, .l (chV P 0), .l (List.take (10 * 16) P), .l (chV P 1), .l (chV P 2), .l (chV P 3), .l (chV P 4), .l (chV P 5), .l (chV P 6), .l (chV P 7), .l (chV P 8), .l (chV P 9)]) = some (11, [.i a, .n (11 * 16), .n B, .i ((B : Nat) : Int), .i (11 : Nat), .l P, .l (chV P 0), .l (List.take (11 * 16) P), .l (chV P 1), .l (chV P 2), .l (chV P 3), .l (chV P 4), .l (chV P 5), .l (chV P 6), .l (chV P 7), .l (chV P 8), .l (chV P 9), .l (chV P 10)]) := by
  have hc : List.length (List.take 16 (List.drop (10 * 16) P)) = 16 := ch_len (P := P) (j := 10) (by omega)
  have ht := take_ch P 10
  have e16 : List.take 16 (List.take 16 (List.drop (10 * 16) P)) = List.take 16 (List.drop (10 * 16) P) := List.take_of_length_le (by omega)
  have w2 : IntKind.i64.wrap ((((10 : Nat) : Int) : Int) + 1) = ((11 : Nat) : Int) := wrap_nat (n := 11) (by omega)
  simp -implicitDefEqProofs only [f12_0, f12_0_10, asI_i, asN_n, asL_l, asB_b, asE_nil, Bool.cond_decide, if_pos (show ((10 : Nat) : Int) < (B : Int) by omega), if_pos (show (0 : Int) ≤ ((10 : Nat) : Int) ∧ ((10 : Nat) : Int) < (B : Int) by omega), Int.toNat_natCast, if_pos (show 10 * 16 + 16 ≤ P.length by omega), hc, if_true, if_pos (show 0 + 16 ≤ 16 by omega), drop16, List.append_nil, if_pos (show 16 ≤ 16 by omega), e16, if_pos (show (10 * 16 + 16) * 8 ≤ 70368744177664 by omega), if_pos (show (List.take (10 * 16) P).length = 10 * 16 * 1 by rw [List.length_take]; omega), w2]
  rw [show (10 + 1) * 16 = 11 * 16 from rfl] at ht
  rw [ht]
  rfl
theorem sm_step_11 (a : Int) (B : Nat) (P : List Int) (hB : 11 < B) (hm : B ≤ 13) (hP : P.length = 16 * B) : f12_0 (11, [.i a, .n (11 * 16), .n B, .i ((B : Nat) : Int), .i (11 : Nat), .l P, .l (chV P 0), .l (List.take (11 * 16) P), .l (chV P 1), .l (chV P 2), .l (chV P 3), .l (chV P 4), .l (chV P 5), .l (chV P 6), .l (chV P 7), .l (chV P 8), .l (chV P 9), .l (chV P 10)]) = some (12, [.i a, .n (12 * 16), .n B, .i ((B : Nat) : Int), .i (12 : Nat), .l P, .l (chV P 0), .l (List.take (12 * 16) P), .l (chV P 1), .l (chV P 2), .l (chV P 3), .l (chV P 4), .l (chV P 5), .l (chV P 6), .l (chV P 7), .l (chV P 8), .l (chV P 9), .l (chV P 10), .l (chV P 11)]) := by
  have hc : List.length (List.take 16 (List.drop (11 * 16) P)) = 16 := ch_len (P := P) (j := 11) (by omega)
  have ht := take_ch P 11
  have e16 : List.take 16 (List.take 16 (List.drop (11 * 16) P)) = List.take 16 (List.drop (11 * 16) P) := List.take_of_length_le (by omega)
  have w2 : IntKind.i64.wrap ((((11 : Nat) : Int) : Int) + 1) = ((12 : Nat) : Int) := wrap_nat (n := 12) (by omega)
  simp -implicitDefEqProofs only [f12_0, f12_0_11, asI_i, asN_n, asL_l, asB_b, asE_nil, Bool.cond_decide, if_pos (show ((11 : Nat) : Int) < (B : Int) by omega), if_pos (show (0 : Int) ≤ ((11 : Nat) : Int) ∧ ((11 : Nat) : Int) < (B : Int) by omega), Int.toNat_natCast, if_pos (show 11 * 16 + 16 ≤ P.length by omega), hc, if_true, if_pos (show 0 + 16 ≤ 16 by omega), drop16, List.append_nil, if_pos (show 16 ≤ 16 by omega), e16, if_pos (show (11 * 16 + 16) * 8 ≤ 70368744177664 by omega), if_pos (show (List.take (11 * 16) P).length = 11 * 16 * 1 by rw [List.length_take]; omega), w2]
  rw [show (11 + 1) * 16 = 12 * 16 from rfl] at ht
  rw [ht]
  rfl
theorem sm_step_12 (a : Int) (B : Nat) (P : List Int) (hB : 12 < B) (hm : B ≤ 13) (hP : P.length = 16 * B) : f12_0 (12, [.i a, .n (12 * 16), .n B, .i ((B : Nat) : Int), .i (12 : Nat), .l P, .l (chV P 0), .l (List.take (12 * 16) P), .l (chV P 1), .l (chV P 2), .l (chV P 3), .l (chV P 4), .l (chV P 5), .l (chV P 6), .l (chV P 7), .l (chV P 8), .l (chV P 9), .l (chV P 10), .l (chV P 11)]) = some (13, [.i a, .n (13 * 16), .n B, .i ((B : Nat) : Int), .i (13 : Nat), .l P, .l (chV P 0), .l (List.take (13 * 16) P), .l (chV P 1), .l (chV P 2), .l (chV P 3), .l (chV P 4), .l (chV P 5), .l (chV P 6), .l (chV P 7), .l (chV P 8), .l (chV P 9), .l (chV P 10), .l (chV P 11), .l (chV P 12)]) := by
  have hc : List.length (List.take 16 (List.drop (12 * 16) P)) = 16 := ch_len (P := P) (j := 12) (by omega)
  have ht := take_ch P 12
  have e16 : List.take 16 (List.take 16 (List.drop (12 * 16) P)) = List.take 16 (List.drop (12 * 16) P) := List.take_of_length_le (by omega)
  have w2 : IntKind.i64.wrap ((((12 : Nat) : Int) : Int) + 1) = ((13 : Nat) : Int) := wrap_nat (n := 13) (by omega)
  simp -implicitDefEqProofs only [f12_0, f12_0_12, asI_i, asN_n, asL_l, asB_b, asE_nil, Bool.cond_decide, if_pos (show ((12 : Nat) : Int) < (B : Int) by omega), if_pos (show (0 : Int) ≤ ((12 : Nat) : Int) ∧ ((12 : Nat) : Int) < (B : Int) by omega), Int.toNat_natCast, if_pos (show 12 * 16 + 16 ≤ P.length by omega), hc, if_true, if_pos (show 0 + 16 ≤ 16 by omega), drop16, List.append_nil, if_pos (show 16 ≤ 16 by omega), e16, if_pos (show (12 * 16 + 16) * 8 ≤ 70368744177664 by omega), if_pos (show (List.take (12 * 16) P).length = 12 * 16 * 1 by rw [List.length_take]; omega), w2]
  rw [show (12 + 1) * 16 = 13 * 16 from rfl] at ht
  rw [ht]
  rfl
theorem sm_end_0 (a : Int) (P : List Int) : f12_0 (0, [.i a, .n 0, .i ((0 : Nat) : Int), .i 0, .l P]) = some (14, [.i a, .l P]) := by
  simp -implicitDefEqProofs only [f12_0, f12_0_0, asI_i, asN_n, asL_l, asB_b, asE_nil, Bool.cond_decide, if_neg (Int.lt_irrefl _), if_neg (show ¬ (0 : Int) < ((0 : Nat) : Int) by omega)]
theorem sm_end_1 (a : Int) (P : List Int) : f12_0 (1, [.i a, .n (1 * 16), .n 1, .i ((1 : Nat) : Int), .i (1 : Nat), .l P, .l (chV P 0), .l (List.take (1 * 16) P)]) = some (15, [.i a, .n (1 * 16), .l P, .l (chV P 0), .l (List.take (1 * 16) P)]) := by
  simp -implicitDefEqProofs only [f12_0, f12_0_1, asI_i, asN_n, asL_l, asB_b, asE_nil, Bool.cond_decide, if_neg (Int.lt_irrefl _), if_neg (show ¬ (0 : Int) < ((0 : Nat) : Int) by omega)]
theorem sm_end_2 (a : Int) (P : List Int) : f12_0 (2, [.i a, .n (2 * 16), .n 2, .i ((2 : Nat) : Int), .i (2 : Nat), .l P, .l (chV P 0), .l (List.take (2 * 16) P), .l (chV P 1)]) = some (16, [.i a, .n (2 * 16), .l P, .l (chV P 0), .l (List.take (2 * 16) P), .l (chV P 1)]) := by
  simp -implicitDefEqProofs only [f12_0, f12_0_2, asI_i, asN_n, asL_l, asB_b, asE_nil, Bool.cond_decide, if_neg (Int.lt_irrefl _), if_neg (show ¬ (0 : Int) < ((0 : Nat) : Int) by omega)]
theorem sm_end_3 (a : Int) (P : List Int) : f12_0 (3, [.i a, .n (3 * 16), .n 3, .i ((3 : Nat) : Int), .i (3 : Nat), .l P, .l (chV P 0), .l (List.take (3 * 16) P), .l (chV P 1), .l (chV P 2)]) = some (17, [.i a, .n (3 * 16), .l P, .l (chV P 0), .l (List.take (3 * 16) P), .l (chV P 1), .l (chV P 2)]) := by
  simp -implicitDefEqProofs only [f12_0, f12_0_3, asI_i, asN_n, asL_l, asB_b, asE_nil, Bool.cond_decide, if_neg (Int.lt_irrefl _), if_neg (show ¬ (0 : Int) < ((0 : Nat) : Int) by omega)]
theorem sm_end_4 (a : Int) (P : List Int) : f12_0 (4, [.i a, .n (4 * 16), .n 4, .i ((4 : Nat) : Int), .i (4 : Nat), .l P, .l (chV P 0), .l (List.take (4 * 16) P), .l (chV P 1), .l (chV P 2), .l (chV P 3)]) = some (18, [.i a, .n (4 * 16), .l P, .l (chV P 0), .l (List.take (4 * 16) P), .l (chV P 1), .l (chV P 2), .l (chV P 3)]) := by
  simp -implicitDefEqProofs only [f12_0, f12_0_4, asI_i, asN_n, asL_l, asB_b, asE_nil, Bool.cond_decide, if_neg (Int.lt_irrefl _), if_neg (show ¬ (0 : Int) < ((0 : Nat) : Int) by omega)]
theorem sm_end_5 (a : Int) (P : List Int) : f12_0 (5, [.i a, .n (5 * 16), .n 5, .i ((5 : Nat) : Int), .i (5 : Nat), .l P, .l (chV P 0), .l (List.take (5 * 16) P), .l (chV P 1), .l (chV P 2), .l (chV P 3), .l (chV P 4)]) = some (19, [.i a, .n (5 * 16), .l P, .l (chV P 0), .l (List.take (5 * 16) P), .l (chV P 1), .l (chV P 2), .l (chV P 3), .l (chV P 4)]) := by
  simp -implicitDefEqProofs only [f12_0, f12_0_5, asI_i, asN_n, asL_l, asB_b, asE_nil, Bool.cond_decide, if_neg (Int.lt_irrefl _), if_neg (show ¬ (0 : Int) < ((0 : Nat) : Int) by omega)]
theorem sm_end_6 (a : Int) (P : List Int) : f12_0 (6, [.i a, .n (6 * 16), .n 6, .i ((6 : Nat) : Int), .i (6 : Nat), .l P, .l (chV P 0), .l (List.take (6 * 16) P), .l (chV P 1), .l (chV P 2), .l (chV P 3), .l (chV P 4), .l (chV P 5)]) = some (20, [.i a, .n (6 * 16), .l P, .l (chV P 0), .l (List.take (6 * 16) P), .l (chV P 1), .l (chV P 2), .l (chV P 3), .l (chV P 4), .l (chV P 5)]) := by
  simp -implicitDefEqProofs only [f12_0, f12_0_6, asI_i, asN_n, asL_l, asB_b, asE_nil, Bool.cond_decide, if_neg (Int.lt_irrefl _), if_neg (show ¬ (0 : Int) < ((0 : Nat) : Int) by omega)]
theorem sm_end_7 (a : Int) (P : List Int) : f12_0 (7, [.i a, .n (7 * 16), .n 7, .i ((7 : Nat) : Int), .i (7 : Nat), .l P, .l (chV P 0), .l (List.take (7 * 16) P), .l (chV P 1), .l (chV P 2), .l (chV P 3), .l (chV P 4), .l (chV P 5), .l (chV P 6)]) = some (21, [.i a, .n (7 * 16), .l P, .l (chV P 0), .l (List.take (7 * 16) P), .l (chV P 1), .l (chV P 2), .l (chV P 3), .l (chV P 4), .l (chV P 5), .l (chV P 6)]) := by
  simp -implicitDefEqProofs only [f12_0, f12_0_7, asI_i, asN_n, asL_l, asB_b, asE_nil, Bool.cond_decide, if_neg (Int.lt_irrefl _), if_neg (show ¬ (0 : Int) < ((0 : Nat) : Int) by omega)]
theorem sm_end_8 (a : Int) (P : List Int) : f12_0 (8, [.i a, .n (8 * 16), .n 8, .i ((8 : Nat) : Int), .i (8 : Nat), .l P, .l (chV P 0), .l (List.take (8 * 16) P), .l (chV P 1), .l (chV P 2), .l (chV P 3), .l (chV P 4), .l (chV P 5), .l (chV P 6), .l (chV P 7)]) = some (22, [.i a, .n (8 * 16), .l P, .l (chV P 0), .l (List.take (8 * 16) P), .l (chV P 1), .l (chV P 2), .l (chV P 3), .l (chV P 4), .l (chV P 5), .l (chV P 6), .l (chV P 7)]) := by
  simp -implicitDefEqProofs only [f12_0, f12_0_8, asI_i, asN_n, asL_l, asB_b, asE_nil, Bool.cond_decide, if_neg (Int.lt_irrefl _), if_neg (show ¬ (0 : Int) < ((0 : Nat) : Int) by omega)]
theorem sm_end_9 (a : Int) (P : List Int) : f12_0 (9, [.i a, .n (9 * 16), .n 9, .i ((9 : Nat) : Int), .i (9 : Nat), .l P, .l (chV P 0), .l (List.take (9 * 16) P), .l (chV P 1), .l (chV P 2), .l (chV P 3), .l (chV P 4), .l (chV P 5), .l (chV P 6), .l (chV P 7), .l (chV P 8)]) = some (23, [.i a, .n (9 * 16), .l P, .l (chV P 0), .l (List.take (9 * 16) P), .l (chV P 1), .l (chV P 2), .l (chV P 3), .l (chV P 4), .l (chV P 5), .l (chV P 6), .l (chV P 7), .l (chV P 8)]) := by
  simp -implicitDefEqProofs only [f12_0, f12_0_9, asI_i, asN_n, asL_l, asB_b, asE_nil, Bool.cond_decide, if_neg (Int.lt_irrefl _), if_neg (show ¬ (0 : Int) < ((0 : Nat) : Int) by omega)]
theorem sm_end_10 (a : Int) (P : List Int) : f12_0 (10, [.i a, .n (10 * 16), .n 10, .i ((10 : Nat) : Int), .i (10 : Nat), .l P, .l (chV P 0), .l (List.take (10 * 16) P), .l (chV P 1), .l (chV P 2), .l (chV P 3), .l (chV P 4), .l (chV P 5), .l (chV P 6), .l (chV P 7), .l (chV P 8), .l (chV P 9)]) = some (24, [.i a, .n (10 * 16), .l P, .l (chV P 0), .l (List.take (10 * 16) P), .l (chV P 1), .l (chV P 2), .l (chV P 3), .l (chV P 4), .l (chV P 5), .l (chV P 6), .l (chV P 7), .l (chV P 8), .l (chV P 9)]) := by
  simp -implicitDefEqProofs only [f12_0, f12_0_10, asI_i, asN_n, asL_l, asB_b, asE_nil, Bool.cond_decide, if_neg (Int.lt_irrefl _), if_neg (show ¬ (0 : Int) < ((0 : Nat) : Int) by omega)]
theorem sm_end_11 (a : Int) (P : List Int) : f12_0 (11, [.i a, .n (11 * 16), .n 11, .i ((11 : Nat) : Int), .i (11 : Nat), .l P, .l (chV P 0), .l (List.take (11 * 16) P), .l (chV P 1), .l (chV P 2), .l (chV P 3), .l (chV P 4), .l (chV P 5), .l (chV P 6), .l (chV P 7), .l (chV P 8), .l (chV P 9), .l (chV P 10)]) = some (25, [.i a, .n (11 * 16), .l P, .l (chV P 0), .l (List.take (11 * 16) P), .l (chV P 1), .l (chV P 2), .l (chV P 3), .l (chV P 4), .l (chV P 5), .l (chV P 6), .l (chV P 7), .l (chV P 8), .l (chV P 9), .l (chV P 10)]) := by
  simp -implicitDefEqProofs only [f12_0, f12_0_11, asI_i, asN_n, asL_l, asB_b, asE_nil, Bool.cond_decide, if_neg (Int.lt_irrefl _), if_neg (show ¬ (0 : Int) < ((0 : Nat) : Int) by omega)]
theorem sm_end_12 (a : Int) (P : List Int) : f12_0 (12, [.i a, .n (12 * 16), .n 12, .i ((12 : Nat) : Int), .i (12 : Nat), .l P, .l (chV P 0), .l (List.take (12 * 16) P), .l (chV P 1), .l (chV P 2), .l (chV P 3), .l (chV P 4), .l (chV P 5), .l (chV P 6), .l (chV P 7), .l (chV P 8), .l (chV P 9), .l (chV P 10), .l (chV P 11)]) = some (26, [.i a, .n (12 * 16), .l P, .l (chV P 0), .l (List.take (12 * 16) P), .l (chV P 1), .l (chV P 2), .l (chV P 3), .l (chV P 4), .l (chV P 5), .l (chV P 6), .l (chV P 7), .l (chV P 8), .l (chV P 9), .l (chV P 10), .l (chV P 11)]) := by
  simp -implicitDefEqProofs only [f12_0, f12_0_12, asI_i, asN_n, asL_l, asB_b, asE_nil, Bool.cond_decide, if_neg (Int.lt_irrefl _), if_neg (show ¬ (0 : Int) < ((0 : Nat) : Int) by omega)]
theorem sm_end_13 (a : Int) (P : List Int) : f12_0 (13, [.i a, .n (13 * 16), .n 13, .i ((13 : Nat) : Int), .i (13 : Nat), .l P, .l (chV P 0), .l (List.take (13 * 16) P), .l (chV P 1), .l (chV P 2), .l (chV P 3), .l (chV P 4), .l (chV P 5), .l (chV P 6), .l (chV P 7), .l (chV P 8), .l (chV P 9), .l (chV P 10), .l (chV P 11), .l (chV P 12)]) = some (27, [.i a, .n (13 * 16), .l P, .l (chV P 0), .l (List.take (13 * 16) P), .l (chV P 1), .l (chV P 2), .l (chV P 3), .l (chV P 4), .l (chV P 5), .l (chV P 6), .l (chV P 7), .l (chV P 8), .l (chV P 9), .l (chV P 10), .l (chV P 11), .l (chV P 12)]) := by
  simp -implicitDefEqProofs only [f12_0, f12_0_13, asI_i, asN_n, asL_l, asB_b, asE_nil, Bool.cond_decide, if_neg (Int.lt_irrefl _), if_neg (show ¬ (0 : Int) < ((0 : Nat) : Int) by omega)]
def smS (a : Int) (B : Nat) (P : List Int) : Nat → Nat × List Leaf
  | 0 => (0, [.i a, .n B, .i ((B : Nat) : Int), .i 0, .l P])
  | 1 => (1, [.i a, .n (1 * 16), .n B, .i ((B : Nat) : Int), .i (1 : Nat), .l P, .l (chV P 0), .l (List.take (1 * 16) P)])
  | 2 => (2, [.i a, .n (2 * 16), .n B, .i ((B : Nat) : Int), .i (2 : Nat), .l P, .l (chV P 0), .l (List.take (2 * 16) P), .l (chV P 1)])
  | 3 => (3, [.i a, .n (3 * 16), .n B, .i ((B : Nat) : Int), .i (3 : Nat), .l P, .l (chV P 0), .l (List.take (3 * 16) P), .l (chV P 1), .l (chV P 2)])
  | 4 => (4, [.i a, .n (4 * 16), .n B, .i ((B : Nat) : Int), .i (4 : Nat), .l P, .l (chV P 0), .l (List.take (4 * 16) P), .l (chV P 1), .l (chV P 2), .l (chV P 3)])
  | 5 => (5, [.i a, .n (5 * 16), .n B, .i ((B : Nat) : Int), .i (5 : Nat), .l P, .l (chV P 0), .l (List.take (5 * 16) P), .l (chV P 1), .l (chV P 2), .l (chV P 3), .l (chV P 4)])
  | 6 => (6, [.i a, .n (6 * 16), .n B, .i ((B : Nat) : Int), .i (6 : Nat), .l P, .l (chV P 0), .l (List.take (6 * 16) P), .l (chV P 1), .l (chV P 2), .l (chV P 3), .l (chV P 4), .l (chV P 5)])
  | 7 => (7, [.i a, .n (7 * 16), .n B, .i ((B : Nat) : Int), .i (7 : Nat), .l P, .l (chV P 0), .l (List.take (7 * 16) P), .l (chV P 1), .l (chV P 2), .l (chV P 3), .l (chV P 4), .l (chV P 5), .l (chV P 6)])
  | 8 => (8, [.i a, .n (8 * 16), .n B, .i ((B : Nat) : Int), .i (8 : Nat), .l P, .l (chV P 0), .l (List.take (8 * 16) P), .l (chV P 1), .l (chV P 2), .l (chV P 3), .l (chV P 4), .l (chV P 5), .l (chV P 6), .l (chV P 7)])
  | 9 => (9, [.i a, .n (9 * 16), .n B, .i ((B : Nat) : Int), .i (9 : Nat), .l P, .l (chV P 0), .l (List.take (9 * 16) P), .l (chV P 1), .l (chV P 2), .l (chV P 3), .l (chV P 4), .l (chV P 5), .l (chV P 6), .l (chV P 7), .l (chV P 8)])
  | 10 => (10, [.i a, .n (10 * 16), .n B, .i ((B : Nat) : Int), .i (10 : Nat), .l P, .l (chV P 0), .l (List.take (10 * 16) P), .l (chV P 1), .l (chV P 2), .l (chV P 3), .l (chV P 4), .l (chV P 5), .l (chV P 6), .l (chV P 7), .l (chV P 8), .l (chV P 9)])
  | 11 => (11, [.i a, .n (11 * 16), .n B, .i ((B : Nat) : Int), .i (11 : Nat), .l P, .l (chV P 0), .l (List.take (11 * 16) P), .l (chV P 1), .l (chV P 2), .l (chV P 3), .l (chV P 4), .l (chV P 5), .l (chV P 6), .l (chV P 7), .l (chV P 8), .l (chV P 9), .l (chV P 10)])
  | 12 => (12, [.i a, .n (12 * 16), .n B, .i ((B : Nat) : Int), .i (12 : Nat), .l P, .l (chV P 0), .l (List.take (12 * 16) P), .l (chV P 1), .l (chV P 2), .l (chV P 3), .l (chV P 4), .l (chV P 5), .l (chV P 6), .l (chV P 7), .l (chV P 8), .l (chV P 9), .l (chV P 10), .l (chV P 11)])
  | 13 => (13, [.i a, .n (13 * 16), .n B, .i ((B : Nat) : Int), .i (13 : Nat), .l P, .l (chV P 0), .l (List.take (13 * 16) P), .l (chV P 1), .l (chV P 2), .l (chV P 3), .l (chV P 4), .l (chV P 5), .l (chV P 6), .l (chV P 7), .l (chV P 8), .l (chV P 9), .l (chV P 10), .l (chV P 11), .l (chV P 12)])
  | _ => (0, [])
theorem sm_step (a : Int) (B : Nat) (P : List Int) (hm : B ≤ 13) (hP : P.length = 16 * B) (k : Nat) (hk : k < B) : f12_0 (smS a B P k) = some (smS a B P (k + 1)) ∧ (smS a B P (k + 1)).1 < 14 := by
  match k, hk with
  | 0, hk => exact ⟨sm_step_0 a B P hk hm hP, by show 1 < 14; omega⟩
  | 1, hk => exact ⟨sm_step_1 a B P hk hm hP, by show 2 < 14; omega⟩
  | 2, hk => exact ⟨sm_step_2 a B P hk hm hP, by show 3 < 14; omega⟩
  | 3, hk => exact ⟨sm_step_3 a B P hk hm hP, by show 4 < 14; omega⟩
  | 4, hk => exact ⟨sm_step_4 a B P hk hm hP, by show 5 < 14; omega⟩
  | 5, hk => exact ⟨sm_step_5 a B P hk hm hP, by show 6 < 14; omega⟩
  | 6, hk => exact ⟨sm_step_6 a B P hk hm hP, by show 7 < 14; omega⟩
  | 7, hk => exact ⟨sm_step_7 a B P hk hm hP, by show 8 < 14; omega⟩
  | 8, hk => exact ⟨sm_step_8 a B P hk hm hP, by show 9 < 14; omega⟩
  | 9, hk => exact ⟨sm_step_9 a B P hk hm hP, by show 10 < 14; omega⟩
  | 10, hk => exact ⟨sm_step_10 a B P hk hm hP, by show 11 < 14; omega⟩
  | 11, hk => exact ⟨sm_step_11 a B P hk hm hP, by show 12 < 14; omega⟩
  | 12, hk => exact ⟨sm_step_12 a B P hk hm hP, by show 13 < 14; omega⟩
  | k + 13, hk => omega
theorem samples_1 (a : Int) (P : List Int) (hP : P.length = 16 * 1) (M : Nat) (hM : (if (0 : Int) > (if ((1 * 16 : Nat) : Int) < a then ((1 * 16 : Nat) : Int) else a) then 0 else (if ((1 * 16 : Nat) : Int) < a then ((1 * 16 : Nat) : Int) else a)) = (M : Int)) (hM2 : M ≤ 1 * 16) : g12 (0, [.n 1, .i a, .l P]) = some (1, [.n M, .l P, .l P]) := by
  have hl : L12_0 (0, [.i a, .n 1, .i ((1 : Nat) : Int), .i 0, .l P]) = some (1, [.i a, .n (1 * 16), .l P, .l (chV P 0), .l (List.take (1 * 16) P)]) := loopL_run (m := 14) (f := f12_0) (smS a 1 P) 1 (fun k hk => sm_step a 1 P (by omega) hP k hk) (sm_end_1 a P) (by omega)
  have e : List.take (1 * 16) P = P := List.take_of_length_le (by omega)
  rw [e] at hl
  simp -implicitDefEqProofs only [g12, g12_0, asI_i, asN_n, asL_l, asB_b, asE_nil, Bool.cond_decide, hl, altK_1, altK_2, altK_3, altK_4, altK_5, altK_6, altK_7w, altK_8w, altK_9w, altK_10w, altK_11w, altK_12w, altK_13w, hM, if_pos (show (0 : Int) ≤ (M : Int) ∧ (M : Int) ≤ ((1 * 16 : Nat) : Int) by omega), Int.toNat_natCast, Nat.sub_zero]
theorem samples_2 (a : Int) (P : List Int) (hP : P.length = 16 * 2) (M : Nat) (hM : (if (0 : Int) > (if ((2 * 16 : Nat) : Int) < a then ((2 * 16 : Nat) : Int) else a) then 0 else (if ((2 * 16 : Nat) : Int) < a then ((2 * 16 : Nat) : Int) else a)) = (M : Int)) (hM2 : M ≤ 2 * 16) : g12 (0, [.n 2, .i a, .l P]) = some (1, [.n M, .l P, .l P]) := by
  have hl : L12_0 (0, [.i a, .n 2, .i ((2 : Nat) : Int), .i 0, .l P]) = some (2, [.i a, .n (2 * 16), .l P, .l (chV P 0), .l (List.take (2 * 16) P), .l (chV P 1)]) := loopL_run (m := 14) (f := f12_0) (smS a 2 P) 2 (fun k hk => sm_step a 2 P (by omega) hP k hk) (sm_end_2 a P) (by omega)
  have e : List.take (2 * 16) P = P := List.take_of_length_le (by omega)
  rw [e] at hl
  simp -implicitDefEqProofs only [g12, g12_0, asI_i, asN_n, asL_l, asB_b, asE_nil, Bool.cond_decide, hl, altK_1, altK_2, altK_3, altK_4, altK_5, altK_6, altK_7w, altK_8w, altK_9w, altK_10w, altK_11w, altK_12w, altK_13w, hM, if_pos (show (0 : Int) ≤ (M : Int) ∧ (M : Int) ≤ ((2 * 16 : Nat) : Int) by omega), Int.toNat_natCast, Nat.sub_zero]
theorem samples_3 (a : Int) (P : List Int) (hP : P.length = 16 * 3) (M : Nat) (hM : (if (0 : Int) > (if ((3 * 16 : Nat) : Int) < a then ((3 * 16 : Nat) : Int) else a) then 0 else (if ((3 * 16 : Nat) : Int) < a then ((3 * 16 : Nat) : Int) else a)) = (M : Int)) (hM2 : M ≤ 3 * 16) : g12 (0, [.n 3, .i a, .l P]) = some (1, [.n M, .l P, .l P]) := by
  have hl : L12_0 (0, [.i a, .n 3, .i ((3 : Nat) : Int), .i 0, .l P]) = some (3, [.i a, .n (3 * 16), .l P, .l (chV P 0), .l (List.take (3 * 16) P), .l (chV P 1), .l (chV P 2)]) := loopL_run (m := 14) (f := f12_0) (smS a 3 P) 3 (fun k hk => sm_step a 3 P (by omega) hP k hk) (sm_end_3 a P) (by omega)
  have e : List.take (3 * 16) P = P := List.take_of_length_le (by omega)
  rw [e] at hl
  simp -implicitDefEqProofs only [g12, g12_0, asI_i, asN_n, asL_l, asB_b, asE_nil, Bool.cond_decide, hl, altK_1, altK_2, altK_3, altK_4, altK_5, altK_6, altK_7w, altK_8w, altK_9w, altK_10w, altK_11w, altK_12w, altK_13w, hM, if_pos (show (0 : Int) ≤ (M : Int) ∧ (M : Int) ≤ ((3 * 16 : Nat) : Int) by omega), Int.toNat_natCast, Nat.sub_zero]
theorem samples_4 (a : Int) (P : List Int) (hP : P.length = 16 * 4) (M : Nat) (hM : (if (0 : Int) > (if ((4 * 16 : Nat) : Int) < a then ((4 * 16 : Nat) : Int) else a) then 0 else (if ((4 * 16 : Nat) : Int) < a then ((4 * 16 : Nat) : Int) else a)) = (M : Int)) (hM2 : M ≤ 4 * 16) : g12 (0, [.n 4, .i a, .l P]) = some (1, [.n M, .l P, .l P]) := by
  have hl : L12_0 (0, [.i a, .n 4, .i ((4 : Nat) : Int), .i 0, .l P]) = some (4, [.i a, .n (4 * 16), .l P, .l (chV P 0), .l (List.take (4 * 16) P), .l (chV P 1), .l (chV P 2), .l (chV P 3)]) := loopL_run (m := 14) (f := f12_0) (smS a 4 P) 4 (fun k hk => sm_step a 4 P (by omega) hP k hk) (sm_end_4 a P) (by omega)
  have e : List.take (4 * 16) P = P := List.take_of_length_le (by omega)
  rw [e] at hl
  simp -implicitDefEqProofs only [g12, g12_0, asI_i, asN_n, asL_l, asB_b, asE_nil, Bool.cond_decide, hl, altK_1, altK_2, altK_3, altK_4, altK_5, altK_6, altK_7w, altK_8w, altK_9w, altK_10w, altK_11w, altK_12w, altK_13w, hM, if_pos (show (0 : Int) ≤ (M : Int) ∧ (M : Int) ≤ ((4 * 16 : Nat) : Int) by omega), Int.toNat_natCast, Nat.sub_zero]
theorem samples_5 (a : Int) (P : List Int) (hP : P.length = 16 * 5) (M : Nat) (hM : (if (0 : Int) > (if ((5 * 16 : Nat) : Int) < a then ((5 * 16 : Nat) : Int) else a) then 0 else (if ((5 * 16 : Nat) : Int) < a then ((5 * 16 : Nat) : Int) else a)) = (M : Int)) (hM2 : M ≤ 5 * 16) : g12 (0, [.n 5, .i a, .l P]) = some (1, [.n M, .l P, .l P]) := by
  have hl : L12_0 (0, [.i a, .n 5, .i ((5 : Nat) : Int), .i 0, .l P]) = some (5, [.i a, .n (5 * 16), .l P, .l (chV P 0), .l (List.take (5 * 16) P), .l (chV P 1), .l (chV P 2), .l (chV P 3), .l (chV P 4)]) := loopL_run (m := 14) (f := f12_0) (smS a 5 P) 5 (fun k hk => sm_step a 5 P (by omega) hP k hk) (sm_end_5 a P) (by omega)
  have e : List.take (5 * 16) P = P := List.take_of_length_le (by omega)
  rw [e] at hl
  simp -implicitDefEqProofs only [g12, g12_0, asI_i, asN_n, asL_l, asB_b, asE_nil, Bool.cond_decide, hl, altK_1, altK_2, altK_3, altK_4, altK_5, altK_6, altK_7w, altK_8w, altK_9w, altK_10w, altK_11w, altK_12w, altK_13w, hM, if_pos (show (0 : Int) ≤ (M : Int) ∧ (M : Int) ≤ ((5 * 16 : Nat) : Int) by omega), Int.toNat_natCast, Nat.sub_zero]
theorem samples_6 (a : Int) (P : List Int) (hP : P.length = 16 * 6) (M : Nat) (hM : (if (0 : Int) > (if ((6 * 16 : Nat) : Int) < a then ((6 * 16 : Nat) : Int) else a) then 0 else (if ((6 * 16 : Nat) : Int) < a then ((6 * 16 : Nat) : Int) else a)) = (M : Int)) (hM2 : M ≤ 6 * 16) : g12 (0, [.n 6, .i a, .l P]) = some (1, [.n M, .l P, .l P]) := by
  have hl : L12_0 (0, [.i a, .n 6, .i ((6 : Nat) : Int), .i 0, .l P]) = some (6, [.i a, .n (6 * 16), .l P, .l (chV P 0), .l (List.take (6 * 16) P), .l (chV P 1), .l (chV P 2), .l (chV P 3), .l (chV P 4), .l (chV P 5)]) := loopL_run (m := 14) (f := f12_0) (smS a 6 P) 6 (fun k hk => sm_step a 6 P (by omega) hP k hk) (sm_end_6 a P) (by omega)
  have e : List.take (6 * 16) P = P := List.take_of_length_le (by omega)
  rw [e] at hl
  simp -implicitDefEqProofs only [g12, g12_0, asI_i, asN_n, asL_l, asB_b, asE_nil, Bool.cond_decide, hl, altK_1, altK_2, altK_3, altK_4, altK_5, altK_6, altK_7w, altK_8w, altK_9w, altK_10w, altK_11w, altK_12w, altK_13w, hM, if_pos (show (0 : Int) ≤ (M : Int) ∧ (M : Int) ≤ ((6 * 16 : Nat) : Int) by omega), Int.toNat_natCast, Nat.sub_zero]
theorem samples_7 (a : Int) (P : List Int) (hP : P.length = 16 * 7) (M : Nat) (hM : (if (0 : Int) > (if ((7 * 16 : Nat) : Int) < a then ((7 * 16 : Nat) : Int) else a) then 0 else (if ((7 * 16 : Nat) : Int) < a then ((7 * 16 : Nat) : Int) else a)) = (M : Int)) (hM2 : M ≤ 7 * 16) : g12 (0, [.n 7, .i a, .l P]) = some (1, [.n M, .l P, .l P]) := by
  have hl : L12_0 (0, [.i a, .n 7, .i ((7 : Nat) : Int), .i 0, .l P]) = some (7, [.i a, .n (7 * 16), .l P, .l (chV P 0), .l (List.take (7 * 16) P), .l (chV P 1), .l (chV P 2), .l (chV P 3), .l (chV P 4), .l (chV P 5), .l (chV P 6)]) := loopL_run (m := 14) (f := f12_0) (smS a 7 P) 7 (fun k hk => sm_step a 7 P (by omega) hP k hk) (sm_end_7 a P) (by omega)
  have e : List.take (7 * 16) P = P := List.take_of_length_le (by omega)
  rw [e] at hl
  simp -implicitDefEqProofs only [g12, g12_0, asI_i, asN_n, asL_l, asB_b, asE_nil, Bool.cond_decide, hl, altK_1, altK_2, altK_3, altK_4, altK_5, altK_6, altK_7w, altK_8w, altK_9w, altK_10w, altK_11w, altK_12w, altK_13w, hM, if_pos (show (0 : Int) ≤ (M : Int) ∧ (M : Int) ≤ ((7 * 16 : Nat) : Int) by omega), Int.toNat_natCast, Nat.sub_zero]
theorem samples_8 (a : Int) (P : List Int) (hP : P.length = 16 * 8) (M : Nat) (hM : (if (0 : Int) > (if ((8 * 16 : Nat) : Int) < a then ((8 * 16 : Nat) : Int) else a) then 0 else (if ((8 * 16 : Nat) : Int) < a then ((8 * 16 : Nat) : Int) else a)) = (M : Int)) (hM2 : M ≤ 8 * 16) : g12 (0, [.n 8, .i a, .l P]) = some (1, [.n M, .l P, .l P]) := by
  have hl : L12_0 (0, [.i a, .n 8, .i ((8 : Nat) : Int), .i 0, .l P]) = some (8, [.i a, .n (8 * 16), .l P, .l (chV P 0), .l (List.take (8 * 16) P), .l (chV P 1), .l (chV P 2), .l (chV P 3), .l (chV P 4), .l (chV P 5), .l (chV P 6), .l (chV P 7)]) := loopL_run (m := 14) (f := f12_0) (smS a 8 P) 8 (fun k hk => sm_step a 8 P (by omega) hP k hk) (sm_end_8 a P) (by omega)
  have e : List.take (8 * 16) P = P := List.take_of_length_le (by omega)
  rw [e] at hl
  simp -implicitDefEqProofs only [g12, g12_0, asI_i, asN_n, asL_l, asB_b, asE_nil, Bool.cond_decide, hl, altK_1, altK_2, altK_3, altK_4, altK_5, altK_6, altK_7w, altK_8w, altK_9w, altK_10w, altK_11w, altK_12w, altK_13w, hM, if_pos (show (0 : Int) ≤ (M : Int) ∧ (M : Int) ≤ ((8 * 16 : Nat) : Int) by omega), Int.toNat_natCast, Nat.sub_zero]
theorem samples_9 (a : Int) (P : List Int) (hP : P.length = 16 * 9) (M : Nat) (hM : (if (0 : Int) > (if ((9 * 16 : Nat) : Int) < a then ((9 * 16 : Nat) : Int) else a) then 0 else (if ((9 * 16 : Nat) : Int) < a then ((9 * 16 : Nat) : Int) else a)) = (M : Int)) (hM2 : M ≤ 9 * 16) : g12 (0, [.n 9, .i a, .l P]) = some (1, [.n M, .l P, .l P]) := by
  have hl : L12_0 (0, [.i a, .n 9, .i ((9 : Nat) : Int), .i 0, .l P]) = some (9, [.i a, .n (9 * 16), .l P, .l (chV P 0), .l (List.take (9 * 16) P), .l (chV P 1), .l (chV P 2), .l (chV P 3), .l (chV P 4), .l (chV P 5), .l (chV P 6), .l (chV P 7), .l (chV P 8)]) := loopL_run (m := 14) (f := f12_0) (smS a 9 P) 9 (fun k hk => sm_step a 9 P (by omega) hP k hk) (sm_end_9 a P) (by omega)
  have e : List.take (9 * 16) P = P := List.take_of_length_le (by omega)
  rw [e] at hl
  simp -implicitDefEqProofs only [g12, g12_0, asI_i, asN_n, asL_l, asB_b, asE_nil, Bool.cond_decide, hl, altK_1, altK_2, altK_3, altK_4, altK_5, altK_6, altK_7w, altK_8w, altK_9w, altK_10w, altK_11w, altK_12w, altK_13w, hM, if_pos (show (0 : Int) ≤ (M : Int) ∧ (M : Int) ≤ ((9 * 16 : Nat) : Int) by omega), Int.toNat_natCast, Nat.sub_zero]
theorem samples_10 (a : Int) (P : List Int) (hP : P.length = 16 * 10) (M : Nat) (hM : (if (0 : Int) > (if ((10 * 16 : Nat) : Int) < a then ((10 * 16 : Nat) : Int) else a) then 0 else (if ((10 * 16 : Nat) : Int) < a then ((10 * 16 : Nat) : Int) else a)) = (M : Int)) (hM2 : M ≤ 10 * 16) : g12 (0, [.n 10, .i a, .l P]) = some (1, [.n M, .l P, .l P]) := by
  have hl : L12_0 (0, [.i a, .n 10, .i ((10 : Nat) : Int), .i 0, .l P]) = some (10, [.i a, .n (10 * 16), .l P, .l (chV P 0), .l (List.take (10 * 16) P), .l (chV P 1), .l (chV P 2), .l (chV P 3), .l (chV P 4), .l (chV P 5), .l (chV P 6), .l (chV P 7), .l (chV P 8), .l (chV P 9)]) := loopL_run (m := 14) (f := f12_0) (smS a 10 P) 10 (fun k hk => sm_step a 10 P (by omega) hP k hk) (sm_end_10 a P) (by omega)
  have e : List.take (10 * 16) P = P := List.take_of_length_le (by omega)
  rw [e] at hl
  simp -implicitDefEqProofs only [g12, g12_0, asI_i, asN_n, asL_l, asB_b, asE_nil, Bool.cond_decide, hl, altK_1, altK_2, altK_3, altK_4, altK_5, altK_6, altK_7w, altK_8w, altK_9w, altK_10w, altK_11w, altK_12w, altK_13w, hM, if_pos (show (0 : Int) ≤ (M : Int) ∧ (M : Int) ≤ ((10 * 16 : Nat) : Int) by omega), Int.toNat_natCast, Nat.sub_zero]
theorem samples_11 (a : Int) (P : List Int) (hP : P.length = 16 * 11) (M : Nat) (hM : (if (0 : Int) > (if ((11 * 16 : Nat) : Int) < a then ((11 * 16 : Nat) : Int) else a) then 0 else (if ((11 * 16 : Nat) : Int) < a then ((11 * 16 : Nat) : Int) else a)) = (M : Int)) (hM2 : M ≤ 11 * 16) : g12 (0, [.n 11, .i a, .l P]) = some (1, [.n M, .l P, .l P]) := by
  have hl : L12_0 (0, [.i a, .n 11, .i ((11 : Nat) : Int), .i 0, .l P]) = some (11, [.i a, .n (11 * 16), .l P, .l (chV P 0), .l (List.take (11 * 16) P), .l (chV P 1), .l (chV P 2), .l (chV P 3), .l (chV P 4), .l (chV P 5), .l (chV P 6), .l (chV P 7), .l (chV P 8), .l (chV P 9), .l (chV P 10)]) := loopL_run (m := 14) (f := f12_0) (smS a 11 P) 11 (fun k hk => sm_step a 11 P (by omega) hP k hk) (sm_end_11 a P) (by omega)
  have e : List.take (11 * 16) P = P := List.take_of_length_le (by omega)
  rw [e] at hl
  simp -implicitDefEqProofs only [g12, g12_0, asI_i, asN_n, asL_l, asB_b, asE_nil, Bool.cond_decide, hl, altK_1, altK_2, altK_3, altK_4, altK_5, altK_6, altK_7w, altK_8w, altK_9w, altK_10w, altK_11w, altK_12w, altK_13w, hM, if_pos (show (0 : Int) ≤ (M : Int) ∧ (M : Int) ≤ ((11 * 16 : Nat) : Int) by omega), Int.toNat_natCast, Nat.sub_zero]
theorem samples_12 (a : Int) (P : List Int) (hP : P.length = 16 * 12) (M : Nat) (hM : (if (0 : Int) > (if ((12 * 16 : Nat) : Int) < a then ((12 * 16 : Nat) : Int) else a) then 0 else (if ((12 * 16 : Nat) : Int) < a then ((12 * 16 : Nat) : Int) else a)) = (M : Int)) (hM2 : M ≤ 12 * 16) : g12 (0, [.n 12, .i a, .l P]) = some (1, [.n M, .l P, .l P]) := by
  have hl : L12_0 (0, [.i a, .n 12, .i ((12 : Nat) : Int), .i 0, .l P]) = some (12, [.i a, .n (12 * 16), .l P, .l (chV P 0), .l (List.take (12 * 16) P), .l (chV P 1), .l (chV P 2), .l (chV P 3), .l (chV P 4), .l (chV P 5), .l (chV P 6), .l (chV P 7), .l (chV P 8), .l (chV P 9), .l (chV P 10), .l (chV P 11)]) := loopL_run (m := 14) (f := f12_0) (smS a 12 P) 12 (fun k hk => sm_step a 12 P (by omega) hP k hk) (sm_end_12 a P) (by omega)
  have e : List.take (12 * 16) P = P := List.take_of_length_le (by omega)
  rw [e] at hl
  simp -implicitDefEqProofs only [g12, g12_0, asI_i, asN_n, asL_l, asB_b, asE_nil, Bool.cond_decide, hl, altK_1, altK_2, altK_3, altK_4, altK_5, altK_6, altK_7w, altK_8w, altK_9w, altK_10w, altK_11w, altK_12w, altK_13w, hM, if_pos (show (0 : Int) ≤ (M : Int) ∧ (M : Int) ≤ ((12 * 16 : Nat) : Int) by omega), Int.toNat_natCast, Nat.sub_zero]
theorem samples_13 (a : Int) (P : List Int) (hP : P.length = 16 * 13) (M : Nat) (hM : (if (0 : Int) > (if ((13 * 16 : Nat) : Int) < a then ((13 * 16 : Nat) : Int) else a) then 0 else (if ((13 * 16 : Nat) : Int) < a then ((13 * 16 : Nat) : Int) else a)) = (M : Int)) (hM2 : M ≤ 13 * 16) : g12 (0, [.n 13, .i a, .l P]) = some (1, [.n M, .l P, .l P]) := by
  have hl : L12_0 (0, [.i a, .n 13, .i ((13 : Nat) : Int), .i 0, .l P]) = some (13, [.i a, .n (13 * 16), .l P, .l (chV P 0), .l (List.take (13 * 16) P), .l (chV P 1), .l (chV P 2), .l (chV P 3), .l (chV P 4), .l (chV P 5), .l (chV P 6), .l (chV P 7), .l (chV P 8), .l (chV P 9), .l (chV P 10), .l (chV P 11), .l (chV P 12)]) := loopL_run (m := 14) (f := f12_0) (smS a 13 P) 13 (fun k hk => sm_step a 13 P (by omega) hP k hk) (sm_end_13 a P) (by omega)
  have e : List.take (13 * 16) P = P := List.take_of_length_le (by omega)
  rw [e] at hl
  simp -implicitDefEqProofs only [g12, g12_0, asI_i, asN_n, asL_l, asB_b, asE_nil, Bool.cond_decide, hl, altK_1, altK_2, altK_3, altK_4, altK_5, altK_6, altK_7w, altK_8w, altK_9w, altK_10w, altK_11w, altK_12w, altK_13w, hM, if_pos (show (0 : Int) ≤ (M : Int) ∧ (M : Int) ≤ ((13 * 16 : Nat) : Int) by omega), Int.toNat_natCast, Nat.sub_zero]
theorem samples_ok (a : Int) (B : Nat) (P : List Int) (h1 : 1 ≤ B) (h2 : B ≤ 13) (hP : P.length = 16 * B) (M : Nat) (hM : (if (0 : Int) > (if ((B * 16 : Nat) : Int) < a then ((B * 16 : Nat) : Int) else a) then 0 else (if ((B * 16 : Nat) : Int) < a then ((B * 16 : Nat) : Int) else a)) = (M : Int)) (hM2 : M ≤ B * 16) : g12 (0, [.n B, .i a, .l P]) = some (1, [.n M, .l P, .l P]) := by
  match B, h1, h2, hP, hM, hM2 with
  | 1, _, _, hP, hM, hM2 => exact samples_1 a P hP M hM hM2
  | 2, _, _, hP, hM, hM2 => exact samples_2 a P hP M hM hM2
  | 3, _, _, hP, hM, hM2 => exact samples_3 a P hP M hM hM2
  | 4, _, _, hP, hM, hM2 => exact samples_4 a P hP M hM hM2
  | 5, _, _, hP, hM, hM2 => exact samples_5 a P hP M hM hM2
  | 6, _, _, hP, hM, hM2 => exact samples_6 a P hP M hM hM2
  | 7, _, _, hP, hM, hM2 => exact samples_7 a P hP M hM hM2
  | 8, _, _, hP, hM, hM2 => exact samples_8 a P hP M hM hM2
  | 9, _, _, hP, hM, hM2 => exact samples_9 a P hP M hM hM2
  | 10, _, _, hP, hM, hM2 => exact samples_10 a P hP M hM hM2
  | 11, _, _, hP, hM, hM2 => exact samples_11 a P hP M hM hM2
  | 12, _, _, hP, hM, hM2 => exact samples_12 a P hP M hM hM2
  | 13, _, _, hP, hM, hM2 => exact samples_13 a P hP M hM hM2
  | 0, h, _, _, _, _ => omega
  | B + 14, _, h, _, _, _ => omega
theorem samples_0 (a : Int) : g12 (0, [.n 0, .i a, .l []]) = some (0, [.l []]) := by
  have hl : L12_0 (0, [.i a, .n 0, .i ((0 : Nat) : Int), .i 0, .l []]) = some (0, [.i a, .l []]) := loopL_last (m := 14) (f := f12_0) (j := 0) (by
    simp -implicitDefEqProofs only [f12_0, f12_0_0, asI_i, asN_n, asL_l, asB_b, asE_nil, Bool.cond_decide, if_neg (show ¬ (0 : Int) < ((0 : Nat) : Int) by omega)])
  have e : (if (0 : Int) > (if (0 : Int) < a then 0 else a) then (0 : Int) else (if (0 : Int) < a then 0 else a)) = 0 := by (repeat' split) <;> omega
  simp -implicitDefEqProofs only [g12, g12_0, asI_i, asN_n, asL_l, asB_b, asE_nil, Bool.cond_decide, hl, altK_0, e, if_pos (show (0 : Int) ≤ 0 ∧ (0 : Int) ≤ 0 by omega)]
theorem law_loop0 (l L : List Int) (N B : Nat) (hN : L.length = N) (h1 : 1 ≤ N) (hm : N ≤ 200) (hB : (N + 15) / 16 = B) (a : Int) :
    L4_0 (1, [.n N, .i a, .n B, .i 0, .l l, .l L, .l (padV L (16 * B) N)]) = some (2, [.i a, .n B, .l l, .l L, .l (padV L (16 * B) N)]) := by
  have w16 : IntKind.i64.wrap (16 * (B : Int)) = ((16 * B : Nat) : Int) := by rw [wrap64 (by omega) (by omega)]; omega
  refine loopL_run (m := 4) (f := f4_0) (fun k => (1, [.n N, .i a, .n B, .i k, .l l, .l L, .l (padV L (16 * B) N)])) (16 * B) (fun k hk => ⟨?_, by show 1 < 4; omega⟩) ?_ (by omega)
  · have hg := pad_get (L := L) (m := 16 * B) hk (by omega)
    rw [hN] at hg
    have hne : ∀ x : Int, (x ≠ x) = False := fun x => by simp
    have w2 : IntKind.i64.wrap ((k : Int) + 1) = ((k + 1 : Nat) : Int) := wrap_nat (n := k + 1) (by omega)
    have k1 : (k : Int) < ((16 * B : Nat) : Int) := by omega
    have p1 : (0 : Int) ≤ ((k / 16 : Nat) : Int) ∧ ((k / 16 : Nat) : Int) < (B : Nat) := by omega
    have p2 : (0 : Int) ≤ ((k % 16 : Nat) : Int) ∧ ((k % 16 : Nat) : Int) < 16 := by omega
    by_cases c : k < N
    · have hx : L[k]? = some (L.getD k 0) := get_some (by omega)
      rw [if_pos c] at hg
      generalize L.getD k 0 = v at *
      simp -implicitDefEqProofs only [f4_0, f4_0_1, asI_i, asN_n, asL_l, asB_b, asE_nil, Bool.cond_decide, w16, if_pos k1, if_pos (show (k : Int) < N by omega), if_pos (show (0 : Int) ≤ k ∧ (k : Int) < N by omega), Int.toNat_natCast, hx, optK_some, tm16, td16 k (by omega), if_pos p1, if_pos p2, place, hg, hne, if_false, w2]
    · rw [if_neg c] at hg
      simp -implicitDefEqProofs only [f4_0, f4_0_1, asI_i, asN_n, asL_l, asB_b, asE_nil, Bool.cond_decide, w16, if_pos k1, if_neg (show ¬ (k : Int) < N by omega), Int.toNat_natCast, optK_some, tm16, td16 k (by omega), if_pos p1, if_pos p2, place, hg, hne, if_false, w2]
  · simp -implicitDefEqProofs only [f4_0, f4_0_1, asI_i, asN_n, asL_l, asB_b, asE_nil, Bool.cond_decide, w16, if_neg (Int.lt_irrefl _)]
theorem law_loop1 (l L P : List Int) (B M : Nat) (hB : B ≤ 13) (hM : M ≤ B * 16) (hP : P.length = 16 * B) :
    L4_1 (3, [.n B, .n M, .i 0, .l l, .l L, .l P, .l P]) = some (3, [.l l, .l L, .l P, .l P]) := by
  refine loopL_run (m := 8) (f := f4_1) (fun k => (3, [.n B, .n M, .i k, .l l, .l L, .l P, .l P])) M (fun k hk => ⟨?_, by show 3 < 8; omega⟩) ?_ (by omega)
  · have hx : P[k]? = some (P.getD k 0) := get_some (by omega)
    have hne : ∀ x : Int, (x ≠ x) = False := fun x => by simp
    have w2 : IntKind.i64.wrap ((k : Int) + 1) = ((k + 1 : Nat) : Int) := wrap_nat (n := k + 1) (by omega)
    have p1 : (0 : Int) ≤ ((k / 16 : Nat) : Int) ∧ ((k / 16 : Nat) : Int) < (B : Nat) := by omega
    have p2 : (0 : Int) ≤ ((k % 16 : Nat) : Int) ∧ ((k % 16 : Nat) : Int) < 16 := by omega
    generalize P.getD k 0 = v at *
    simp -implicitDefEqProofs only [f4_1, f4_1_3, asI_i, asN_n, asL_l, asB_b, asE_nil, Bool.cond_decide, if_pos (show (k : Int) < M by omega), if_pos (show (0 : Int) ≤ k ∧ (k : Int) < M by omega), Int.toNat_natCast, hx, optK_some, tm16, td16 k (by omega), if_pos p1, if_pos p2, place, hne, if_false, w2]
  · simp -implicitDefEqProofs only [f4_1, f4_1_3, asI_i, asN_n, asL_l, asB_b, asE_nil, Bool.cond_decide, if_neg (Int.lt_irrefl _)]
theorem lap_e (a : Int) (l : List Int) : g4 (0, [.n 0, .i a, .l l]) = some (0, [.b true, .l l]) := by
  have hne : ∀ x : Int, (x ≠ x) = False := fun x => by simp
  have hz1 : ((0 : Int) ≠ ((0 : Nat) : Int)) = False := by simp
  have hz2 : (((0 : Nat) : Int) ≠ (0 : Int)) = False := by simp
  have w16 : IntKind.i64.wrap (16 * ((0 : Nat) : Int)) = 0 := by decide
  have h0 : L4_0 (0, [.i a, .n 0, .i 0, .l l, .l []]) = some (0, [.i a, .n 0, .l l, .l []]) := loopL_last (m := 4) (f := f4_0) (j := 0) (by
    simp -implicitDefEqProofs only [f4_0, f4_0_0, asI_i, asN_n, asL_l, asB_b, asE_nil, Bool.cond_decide, w16, if_neg (Int.lt_irrefl _)])
  have h1 : L4_1 (0, [.n 0, .i 0, .l l, .l []]) = some (0, [.l l, .l []]) := loopL_last (m := 8) (f := f4_1) (j := 0) (by
    simp -implicitDefEqProofs only [f4_1, f4_1_0, asI_i, asN_n, asL_l, asB_b, asE_nil, Bool.cond_decide, if_neg (Int.lt_irrefl _)])
  by_cases c : a < 0
  · simp -implicitDefEqProofs only [g4, g4_0, asI_i, asN_n, asL_l, asB_b, asE_nil, Bool.cond_decide, altK_0, altK_1, altK_2, altK_3, altK_4, altK_5, altK_6, altK_7w, altK_8w, few_0, blocks_nil, count_0, hne, hz1, hz2, if_false, if_true, h0, samples_0, w16, h1, awakeL_ok, if_pos c, if_neg (Int.lt_irrefl 0)]
  · by_cases d : 0 < a
    · simp -implicitDefEqProofs only [g4, g4_0, asI_i, asN_n, asL_l, asB_b, asE_nil, Bool.cond_decide, altK_0, altK_1, altK_2, altK_3, altK_4, altK_5, altK_6, altK_7w, altK_8w, few_0, blocks_nil, count_0, hne, hz1, hz2, if_false, if_true, h0, samples_0, w16, h1, awakeL_ok, if_neg c, if_pos d]
    · obtain rfl : a = 0 := by omega
      simp -implicitDefEqProofs only [g4, g4_0, asI_i, asN_n, asL_l, asB_b, asE_nil, Bool.cond_decide, altK_0, altK_1, altK_2, altK_3, altK_4, altK_5, altK_6, altK_7w, altK_8w, few_0, blocks_nil, count_0, hne, hz1, hz2, if_false, if_true, h0, samples_0, w16, h1, awakeL_ok, if_neg (Int.lt_irrefl 0)]
theorem lap_n (a : Int) : g4 (1, [.i a]) = some (1, [.b true]) := by
  have hne : ∀ x : Int, (x ≠ x) = False := fun x => by simp
  have hz1 : ((0 : Int) ≠ ((0 : Nat) : Int)) = False := by simp
  have hz2 : (((0 : Nat) : Int) ≠ (0 : Int)) = False := by simp
  have w16 : IntKind.i64.wrap (16 * ((0 : Nat) : Int)) = 0 := by decide
  have h0 : L4_0 (2, [.i a, .n 0, .i 0, .l []]) = some (4, [.i a, .n 0, .l []]) := loopL_last (m := 4) (f := f4_0) (j := 4) (by
    simp -implicitDefEqProofs only [f4_0, f4_0_2, asI_i, asN_n, asL_l, asB_b, asE_nil, Bool.cond_decide, w16, if_neg (Int.lt_irrefl _)])
  have h1 : L4_1 (4, [.n 0, .i 0, .l []]) = some (5, [.l []]) := loopL_last (m := 8) (f := f4_1) (j := 5) (by
    simp -implicitDefEqProofs only [f4_1, f4_1_4, asI_i, asN_n, asL_l, asB_b, asE_nil, Bool.cond_decide, if_neg (Int.lt_irrefl _)])
  by_cases c : a < 0
  · simp -implicitDefEqProofs only [g4, g4_1, asI_i, asN_n, asL_l, asB_b, asE_nil, Bool.cond_decide, altK_0, altK_1, altK_2, altK_3, altK_4, altK_5, altK_6, altK_7w, altK_8w, few_nil, blocks_nil, count_0, hne, hz1, hz2, if_false, if_true, h0, samples_0, w16, h1, awakeL_ok, if_pos c, if_neg (Int.lt_irrefl 0)]
  · by_cases d : 0 < a
    · simp -implicitDefEqProofs only [g4, g4_1, asI_i, asN_n, asL_l, asB_b, asE_nil, Bool.cond_decide, altK_0, altK_1, altK_2, altK_3, altK_4, altK_5, altK_6, altK_7w, altK_8w, few_nil, blocks_nil, count_0, hne, hz1, hz2, if_false, if_true, h0, samples_0, w16, h1, awakeL_ok, if_neg c, if_pos d]
    · obtain rfl : a = 0 := by omega
      simp -implicitDefEqProofs only [g4, g4_1, asI_i, asN_n, asL_l, asB_b, asE_nil, Bool.cond_decide, altK_0, altK_1, altK_2, altK_3, altK_4, altK_5, altK_6, altK_7w, altK_8w, few_nil, blocks_nil, count_0, hne, hz1, hz2, if_false, if_true, h0, samples_0, w16, h1, awakeL_ok, if_neg (Int.lt_irrefl 0)]
theorem lap_z (a : Int) : g4 (2, [.i a]) = some (2, [.b true]) := by
  have hne : ∀ x : Int, (x ≠ x) = False := fun x => by simp
  have hz1 : ((0 : Int) ≠ ((0 : Nat) : Int)) = False := by simp
  have hz2 : (((0 : Nat) : Int) ≠ (0 : Int)) = False := by simp
  have w16 : IntKind.i64.wrap (16 * ((0 : Nat) : Int)) = 0 := by decide
  have h0 : L4_0 (3, [.i a, .n 0, .i 0, .l []]) = some (6, [.i a, .n 0, .l []]) := loopL_last (m := 4) (f := f4_0) (j := 6) (by
    simp -implicitDefEqProofs only [f4_0, f4_0_3, asI_i, asN_n, asL_l, asB_b, asE_nil, Bool.cond_decide, w16, if_neg (Int.lt_irrefl _)])
  have h1 : L4_1 (6, [.n 0, .i 0, .l []]) = some (8, [.l []]) := loopL_last (m := 8) (f := f4_1) (j := 8) (by
    simp -implicitDefEqProofs only [f4_1, f4_1_6, asI_i, asN_n, asL_l, asB_b, asE_nil, Bool.cond_decide, if_neg (Int.lt_irrefl _)])
  by_cases c : a < 0
  · simp -implicitDefEqProofs only [g4, g4_2, asI_i, asN_n, asL_l, asB_b, asE_nil, Bool.cond_decide, altK_0, altK_1, altK_2, altK_3, altK_4, altK_5, altK_6, altK_7w, altK_8w, few_z, blocks_nil, count_0, hne, hz1, hz2, if_false, if_true, h0, samples_0, w16, h1, awakeL_ok, if_pos c, if_neg (Int.lt_irrefl 0)]
  · by_cases d : 0 < a
    · simp -implicitDefEqProofs only [g4, g4_2, asI_i, asN_n, asL_l, asB_b, asE_nil, Bool.cond_decide, altK_0, altK_1, altK_2, altK_3, altK_4, altK_5, altK_6, altK_7w, altK_8w, few_z, blocks_nil, count_0, hne, hz1, hz2, if_false, if_true, h0, samples_0, w16, h1, awakeL_ok, if_neg c, if_pos d]
    · obtain rfl : a = 0 := by omega
      simp -implicitDefEqProofs only [g4, g4_2, asI_i, asN_n, asL_l, asB_b, asE_nil, Bool.cond_decide, altK_0, altK_1, altK_2, altK_3, altK_4, altK_5, altK_6, altK_7w, altK_8w, few_z, blocks_nil, count_0, hne, hz1, hz2, if_false, if_true, h0, samples_0, w16, h1, awakeL_ok, if_neg (Int.lt_irrefl 0)]
theorem lap_f (a : Int) (l : List Int) (n : Nat) (hn : l.length = n) (h1 : 1 ≤ n) (hm : n < 9223372036854775808) : g4 (0, [.n n, .i a, .l l]) = some (0, [.b true, .l l]) := by
  have hne : ∀ x : Int, (x ≠ x) = False := fun x => by simp
  have hf := few_ok l n hn h1 hm
  have hl : (fewV l).length = min 200 n := by rw [fewV_len, hn]
  have hN : 1 ≤ min 200 n ∧ min 200 n ≤ 200 := by omega
  generalize fewV l = L at *
  generalize min 200 n = N at *
  have hb := blocks_ok L N hl hN.1 hN.2
  have hc := count_ok N hN.1 (by omega)
  generalize hB : (N + 15) / 16 = B at *
  have w15 : IntKind.i64.wrap ((N : Int) + 15) = ((N + 15 : Nat) : Int) := wrap_nat (n := N + 15) (by omega)
  have wd : IntKind.i64.wrap (Int.tdiv ((N + 15 : Nat) : Int) 16) = (B : Int) := by rw [td16 (N + 15) (by omega), hB]
  have w16 : IntKind.i64.wrap (16 * (B : Int)) = ((B * 16 : Nat) : Int) := by rw [wrap64 (by omega) (by omega)]; omega
  have hl0 := law_loop0 l L N B hl hN.1 hN.2 hB a
  have hP := pad_len (L := L) (m := 16 * B) (k := N) (by omega) (by omega)
  have hs := fun M hM hM2 => samples_ok a B (padV L (16 * B) N) (by omega) (by omega) hP M hM hM2
  have hl1 := fun M hM => law_loop1 l L (padV L (16 * B) N) B M (by omega) hM hP
  generalize padV L (16 * B) N = P at *
  by_cases c : a < 0
  · have e : (if (0 : Int) > (if ((B * 16 : Nat) : Int) < a then ((B * 16 : Nat) : Int) else a) then 0 else (if ((B * 16 : Nat) : Int) < a then ((B * 16 : Nat) : Int) else a)) = ((0 : Nat) : Int) := by (repeat' split) <;> omega
    have hz2 : (((0 : Nat) : Int) ≠ (0 : Int)) = False := by simp
    have q1 := hs 0 e (by omega)
    have q2 := hl1 0 (by omega)
    simp -implicitDefEqProofs only [g4, g4_0, asI_i, asN_n, asL_l, asB_b, asE_nil, Bool.cond_decide, altK_0, altK_1, altK_2, altK_3, altK_4, altK_5, altK_6, altK_7w, altK_8w, hf, hb, hc, w15, wd, hne, if_false, if_true, hl0, w16, awakeL_ok, q1, if_pos c, if_neg (show ¬ ((B * 16 : Nat) : Int) < 0 by omega), hz2, q2]
  · by_cases d : ((B * 16 : Nat) : Int) < a
    · have e : (if (0 : Int) > (if ((B * 16 : Nat) : Int) < a then ((B * 16 : Nat) : Int) else a) then 0 else (if ((B * 16 : Nat) : Int) < a then ((B * 16 : Nat) : Int) else a)) = ((B * 16 : Nat) : Int) := by (repeat' split) <;> omega
      have q1 := hs (B * 16) e (by omega)
      have q2 := hl1 (B * 16) (by omega)
      simp -implicitDefEqProofs only [g4, g4_0, asI_i, asN_n, asL_l, asB_b, asE_nil, Bool.cond_decide, altK_0, altK_1, altK_2, altK_3, altK_4, altK_5, altK_6, altK_7w, altK_8w, hf, hb, hc, w15, wd, hne, if_false, if_true, hl0, w16, awakeL_ok, q1, if_neg c, if_pos d, q2]
    · obtain ⟨M, rfl⟩ : ∃ M : Nat, a = M := ⟨a.toNat, by omega⟩
      have e : (if (0 : Int) > (if ((B * 16 : Nat) : Int) < (M : Int) then ((B * 16 : Nat) : Int) else (M : Int)) then 0 else (if ((B * 16 : Nat) : Int) < (M : Int) then ((B * 16 : Nat) : Int) else (M : Int))) = (M : Int) := by (repeat' split) <;> omega
      have q1 := hs M e (by omega)
      have q2 := hl1 M (by omega)
      simp -implicitDefEqProofs only [g4, g4_0, asI_i, asN_n, asL_l, asB_b, asE_nil, Bool.cond_decide, altK_0, altK_1, altK_2, altK_3, altK_4, altK_5, altK_6, altK_7w, altK_8w, hf, hb, hc, w15, wd, hne, if_false, if_true, hl0, w16, awakeL_ok, q1, if_neg c, if_neg d, q2]
theorem lap_l (l : List Int) (n : Nat) (hn : l.length = n * 1) (hm : n ≤ maxLen) (a : Int) : ∃ d, evF tab d 4 [.slice 0 0 n 1, .int .i64 a] [⟨false, .ints .i64 l⟩] = some (.bool true, [⟨false, .ints .i64 l⟩], []) := by
  have h : g4 (0, [.n n, .i a, .l l]) = some (0, [.b true, .l l]) := by
    unfold maxLen at hm
    by_cases c : n = 0
    · subst c; exact lap_e a l
    · exact lap_f a l n (by omega) (by omega) (by omega)
  exact ⟨_, (ok4 0).ret (i := 0) (ls := [.n n, .i a, .l l]) (j := 0) (r := [.b true, .l l]) h rfl rfl rfl rfl⟩
theorem lap_nil (a : Int) : ∃ d, evF tab d 4 [.nils, .int .i64 a] [] = some (.bool true, [], []) := ⟨_, (ok4 0).ret (i := 1) (ls := [.i a]) (j := 1) (r := [.b true]) (lap_n a) rfl rfl rfl rfl⟩
theorem lap_d (a : Int) : ∃ d, evF tab d 4 [.slice 0 0 0 1, .int .i64 a] [⟨true, .unk⟩] = some (.bool true, [⟨true, .unk⟩], []) := ⟨_, (ok4 0).ret (i := 2) (ls := [.i a]) (j := 2) (r := [.b true]) (lap_z a) rfl rfl rfl rfl⟩
end Go.Proofs.Ytmmfgbifbbiihaa
