/-
  Few gains; blocks turned into one another where they meet. Conditions: none.
-/
import Derived.Test.YtmmfgbifbbiihaaLapA
namespace Go.Proofs.Ytmmfgbifbbiihaa
open Go Go.Sx S
set_option maxRecDepth 100000
set_option linter.unusedVariables false
attribute [local simp] asI_i asB_b asL_l asN_n asS_s asE_nil altK_none altK_0 altK_1 altK_2 altK_3 optK_some optK_none Bool.cond_decide Bool.cond_not Int.toNat_natCast
set_option linter.unusedSimpArgs false
/-! ### Few gains -/
def b3 (x : Int) : Int := bAnd .i64 x 3
theorem map_set' (x : List Int) : (x.map b3).length = x.length := List.length_map ..
theorem gin_0 (n : Nat) (i : Int) (h : List Int) (x : List Int) (hx : x.length = 4) : L13_0 (0, [.n n, .i i, .i 0, .l h, .l x]) = some (0, [.n n, .i i, .l h, .l (x.map b3)]) := by
  have hv : (x.map b3).length = x.length := map_set' x
  have hl : L13_0 (0, [.n n, .i i, .i 0, .l h, .l (mix (x.map b3) x 0)]) = some (0, [.n n, .i i, .l h, .l (x.map b3)]) := by
    refine loopL_run (m := 2) (f := f13_0) (fun k => (0, [.n n, .i i, .i (k : Int), .l h, .l (mix (x.map b3) x k)])) 4 (fun k hk => ⟨?_, by show 0 < 2; omega⟩) ?_ (by omega)
    · have hg := (mix_get hv (k := k) (by omega)).trans (get_some (l := x) (i := k) (by omega))
      have hs : (x.map b3)[k]? = some (b3 (x.getD k 0)) := by rw [List.getElem?_map, get_some (l := x) (i := k) (by omega)]; rfl
      have hm := mix_set hv (k := k) (by omega) hs
      have hlen := mix_len hv k
      have w2 : IntKind.i64.wrap ((k : Int) + 1) = ((k + 1 : Nat) : Int) := wrap_nat (n := k + 1) (by omega)
      generalize x.getD k 0 = u at *
      simp -implicitDefEqProofs only [f13_0, f13_0_0, asI_i, asN_n, asL_l, asB_b, asE_nil, Bool.cond_decide, if_pos (show (k : Int) < 4 by omega), if_pos (show (0 : Int) ≤ k ∧ (k : Int) < 4 by omega), Int.toNat_natCast, hg, optK_some, if_pos (show k < (mix (x.map b3) x k).length by omega), w2]
      rw [show bAnd IntKind.i64 u 3 = b3 u from rfl, hm]
    · show f13_0 (0, [.n n, .i i, .i ((4 : Nat) : Int), .l h, .l (mix (x.map b3) x 4)]) = _
      rw [show mix (x.map b3) x 4 = x.map b3 by rw [← hx]; exact mix_all hv]
      generalize x.map b3 = z
      kernel_rfl
  rw [mix_zero] at hl
  exact hl
theorem gin_1 (n q : Nat) (i : Int) (h L : List Int) (x : List Int) (hx : x.length = 4) : L13_0 (1, [.n n, .n q, .i i, .i 0, .l h, .l L, .l x]) = some (1, [.n n, .n q, .i i, .l h, .l L, .l (x.map b3)]) := by
  have hv : (x.map b3).length = x.length := map_set' x
  have hl : L13_0 (1, [.n n, .n q, .i i, .i 0, .l h, .l L, .l (mix (x.map b3) x 0)]) = some (1, [.n n, .n q, .i i, .l h, .l L, .l (x.map b3)]) := by
    refine loopL_run (m := 2) (f := f13_0) (fun k => (1, [.n n, .n q, .i i, .i (k : Int), .l h, .l L, .l (mix (x.map b3) x k)])) 4 (fun k hk => ⟨?_, by show 1 < 2; omega⟩) ?_ (by omega)
    · have hg := (mix_get hv (k := k) (by omega)).trans (get_some (l := x) (i := k) (by omega))
      have hs : (x.map b3)[k]? = some (b3 (x.getD k 0)) := by rw [List.getElem?_map, get_some (l := x) (i := k) (by omega)]; rfl
      have hm := mix_set hv (k := k) (by omega) hs
      have hlen := mix_len hv k
      have w2 : IntKind.i64.wrap ((k : Int) + 1) = ((k + 1 : Nat) : Int) := wrap_nat (n := k + 1) (by omega)
      generalize x.getD k 0 = u at *
      simp -implicitDefEqProofs only [f13_0, f13_0_1, asI_i, asN_n, asL_l, asB_b, asE_nil, Bool.cond_decide, if_pos (show (k : Int) < 4 by omega), if_pos (show (0 : Int) ≤ k ∧ (k : Int) < 4 by omega), Int.toNat_natCast, hg, optK_some, if_pos (show k < (mix (x.map b3) x k).length by omega), w2]
      rw [show bAnd IntKind.i64 u 3 = b3 u from rfl, hm]
    · show f13_0 (1, [.n n, .n q, .i i, .i ((4 : Nat) : Int), .l h, .l L, .l (mix (x.map b3) x 4)]) = _
      rw [show mix (x.map b3) x 4 = x.map b3 by rw [← hx]; exact mix_all hv]
      generalize x.map b3 = z
      kernel_rfl
  rw [mix_zero] at hl
  exact hl
def gL (h : List Int) (k : Nat) : List Int := (List.take (4 * k) h).map b3
def gn (G : List Int) (k : Nat) : List Int := List.take 4 (List.drop (k * 4) G)
theorem gn_len {G : List Int} {k : Nat} (h : (k + 1) * 4 ≤ G.length) : (gn G k).length = 4 := by
  unfold gn
  rw [List.length_take, List.length_drop]
  omega
theorem gL_next (h : List Int) (k : Nat) : gL h k ++ (gn h k).map b3 = gL h (k + 1) := by
  unfold gL gn
  rw [show 4 * (k + 1) = 4 * k + 4 by omega, List.take_add, List.map_append, Nat.mul_comm k 4]
theorem gL_len {h : List Int} {k : Nat} (hk : 4 * k ≤ h.length) : (gL h k).length = k * 4 := by
  unfold gL
  rw [List.length_map, List.length_take]
  omega
theorem fewG_ok (n : Nat) (h : List Int) (hn : h.length = 4 * n) (h1 : 1 ≤ n) (hm : n < 9223372036854775808) : g13 (0, [.n n, .l h]) = some (3, [.n (min 20 n), .l h, .l (gL h (min 20 n))]) := by
  have hl : L13_1 (0, [.n n, .i 0, .l h]) = some (3, [.n (min 20 n), .l h, .l (gL h (min 20 n))]) := by
    have main := loopL_run (m := 4) (f := f13_1) (fun k => if k = 0 then (0, [.n n, .i 0, .l h]) else (3, [.n n, .n k, .i (k : Int), .l h, .l (gL h k)])) (min 20 n) (j := 3) (r := [.n (min 20 n), .l h, .l (gL h (min 20 n))]) (fun k hk => ?_) ?_ (by omega)
    · show loopL 4 f13_1 (0, [.n n, .i 0, .l h]) = _
      simpa using main
    · simp only [Nat.succ_ne_zero, if_false]
      refine ⟨?_, by show 3 < 4; omega⟩
      have hlen := gn_len (G := h) (k := k) (by omega)
      have hnx := gL_next h k
      have hgl := gL_len (h := h) (k := k) (by omega)
      have hml : ((gn h k).map b3).length = 4 := by rw [List.length_map, hlen]
      have hml2 : List.take 4 ((gn h k).map b3) = (gn h k).map b3 := take4 hml
      by_cases hk0 : k = 0
      · subst hk0
        have t0 : Int.toNat 0 = 0 := rfl
        have e0 : List.take 4 (List.drop (0 * 4) h) = gn h 0 := rfl
        have w2 : IntKind.i64.wrap ((0 : Int) + 1) = ((0 + 1 : Nat) : Int) := by rfl
        have g0 : gL h 0 = [] := rfl
        rw [g0, List.nil_append] at hnx
        have hin := gin_0 n 0 h (gn h 0) hlen
        rw [← hnx]
        generalize gn h 0 = x at *
        generalize List.map b3 x = z at *
        simp -implicitDefEqProofs only [f13_1, f13_1_0, asI_i, asN_n, asL_l, asB_b, asE_nil, Bool.cond_decide, if_true, if_pos (show (0 : Int) < n by omega), if_pos (show (0 : Int) < 20 by omega), if_pos (show (0 : Int) ≤ 0 ∧ (0 : Int) < n by omega), t0, if_pos (show 0 * 4 + 4 ≤ h.length by omega), e0, hlen, Nat.zero_add, if_pos (show 4 ≤ 4 by omega), drop4, show List.drop 4 ([0, 0, 0, 0] : List Int) = [] from rfl, List.append_nil, hin, altK_0, hml, if_pos (show 4 ≤ 4 by omega), hml2, w2]
      · have e0 : List.take 4 (List.drop (k * 4) h) = gn h k := rfl
        have w2 : IntKind.i64.wrap ((k : Int) + 1) = ((k + 1 : Nat) : Int) := wrap_nat (n := k + 1) (by omega)
        have hin := gin_1 n k (k : Int) h (gL h k) (gn h k) hlen
        rw [if_neg hk0, ← hnx]
        generalize gn h k = x at *
        generalize List.map b3 x = z at *
        simp -implicitDefEqProofs only [f13_1, f13_1_3, asI_i, asN_n, asL_l, asB_b, asE_nil, Bool.cond_decide, if_true, if_pos (show (k : Int) < n by omega), if_pos (show (k : Int) < 20 by omega), if_pos (show (0 : Int) ≤ k ∧ (k : Int) < n by omega), Int.toNat_natCast, if_pos (show k * 4 + 4 ≤ h.length by omega), e0, hlen, Nat.zero_add, if_pos (show 4 ≤ 4 by omega), show List.drop 4 ([0, 0, 0, 0] : List Int) = [] from rfl, List.append_nil, hin, altK_1, hml, hml2, if_pos (show (k + 1) * 32 ≤ 70368744177664 by omega), hgl, w2]
    · have hne : ¬ min 20 n = 0 := by omega
      rw [if_neg hne]
      simp -implicitDefEqProofs only [f13_1, f13_1_3, asI_i, asN_n, asL_l, asB_b, asE_nil, Bool.cond_decide]
      by_cases c : ((min 20 n : Nat) : Int) < n
      · rw [if_pos c, if_neg (by omega)]
      · rw [if_neg c]
  simp -implicitDefEqProofs only [g13, g13_0, asI_i, asN_n, asL_l, asB_b, asE_nil, Bool.cond_decide, hl, altK_3]
theorem fewG_0 (h : List Int) : g13 (0, [.n 0, .l h]) = some (0, [.l h]) := by
  have hl : L13_1 (0, [.n 0, .i 0, .l h]) = some (0, [.l h]) := loopL_last (m := 4) (f := f13_1) (j := 0) (by
    simp -implicitDefEqProofs only [f13_1, f13_1_0, asI_i, asN_n, asL_l, asB_b, asE_nil, Bool.cond_decide, if_neg (show ¬ (0 : Int) < ((0 : Nat) : Int) by omega)])
  simp -implicitDefEqProofs only [g13, g13_0, asI_i, asN_n, asL_l, asB_b, asE_nil, Bool.cond_decide, hl, altK_0]
theorem fewG_nil : g13 (1, []) = some (1, []) := by kernel_rfl
theorem fewG_z : g13 (2, [.n 0]) = some (2, []) := by kernel_rfl
/-! ### The table's turns -/
theorem tt_0 : g29 (0, [.i 0]) = some (0, [.i 512, .i 1023]) := by kernel_rfl
theorem tt_1 : g29 (0, [.i 1]) = some (0, [.i 1536, .i 3045]) := by kernel_rfl
theorem tt_2 : g29 (0, [.i 2]) = some (0, [.i 2560, .i 4998]) := by kernel_rfl
theorem tt_3 : g29 (0, [.i 3]) = some (0, [.i 3584, .i 6841]) := by kernel_rfl
theorem tt_4 : g29 (0, [.i 4]) = some (0, [.i 4608, .i 8540]) := by kernel_rfl
theorem tt_5 : g29 (0, [.i 5]) = some (0, [.i 5632, .i 10074]) := by kernel_rfl
theorem tt_6 : g29 (0, [.i 6]) = some (0, [.i 6656, .i 11426]) := by kernel_rfl
theorem tt_7 : g29 (0, [.i 7]) = some (0, [.i 7680, .i 12593]) := by kernel_rfl
theorem tt_ok (k : Nat) (hk : k < 8) : g29 (0, [.i (k : Int)]) = some (0, [.i (TS.getD (2 * k) 0), .i (TS.getD (2 * k + 1) 0)]) :=
  match k, hk with
  | 0, _ => tt_0
  | 1, _ => tt_1
  | 2, _ => tt_2
  | 3, _ => tt_3
  | 4, _ => tt_4
  | 5, _ => tt_5
  | 6, _ => tt_6
  | 7, _ => tt_7
  | k + 8, h => absurd h (by omega)
theorem ts_pair (k : Nat) (hk : k < 8) : List.take 2 (List.drop (k * 2) TS) = [TS.getD (2 * k) 0, TS.getD (2 * k + 1) 0] :=
  match k, hk with
  | 0, _ => rfl
  | 1, _ => rfl
  | 2, _ => rfl
  | 3, _ => rfl
  | 4, _ => rfl
  | 5, _ => rfl
  | 6, _ => rfl
  | 7, _ => rfl
  | k + 8, h => absurd h (by omega)
theorem net_new : g16 (0, []) = some (0, [.l TS]) := by kernel_rfl
theorem lap_new : g19 (0, []) = some (0, [.l (TS ++ TS)]) := by kernel_rfl
def hV (tv : Int → Int → Int → Int → Int × Int) (k : Nat) (x y : Int) : Int × Int := tv (TS.getD (2 * k) 0) (TS.getD (2 * k + 1) 0) x y
/-! ### The law's own join -/
theorem jn_in (n : Nat) (f : Nat → Int) (h : List Int) (i : Nat) (h1 : 1 ≤ i) (hi : i < n) (hn : n ≤ 20) : L15_0 (0, [.n n, .i (i : Int), .i 0, .l h, .l (tbl (16 * n) (meetTo (hV turnV) f i 0))]) = some (0, [.n n, .i (i : Int), .l h, .l (tbl (16 * n) (meetTo (hV turnV) f (i + 1) 0))]) := by
  refine loop1_run (fun k => [.n n, .i (i : Int), .i (k : Int), .l h, .l (tbl (16 * n) (meetTo (hV turnV) f i k))]) 8 (fun k hk => ?_) ?_ (by omega)
  · have w1 : IntKind.i64.wrap ((i : Int) - 1) = ((i - 1 : Nat) : Int) := by rw [wrap64 (by omega) (by omega)]; omega
    have w2 : IntKind.i64.wrap (15 - (k : Int)) = ((15 - k : Nat) : Int) := by rw [wrap64 (by omega) (by omega)]; omega
    have w3 : IntKind.i64.wrap ((k : Int) + 1) = ((k + 1 : Nat) : Int) := wrap_nat (n := k + 1) (by omega)
    have q1 : 15 - k + (i - 1) * 16 = 16 * (i - 1) + (15 - k) := by omega
    have q2 : k + i * 16 = 16 * i + k := by omega
    have hx : (tbl (16 * n) (meetTo (hV turnV) f i k))[16 * (i - 1) + (15 - k)]? = some (f (16 * (i - 1) + (15 - k))) := by rw [tbl_get (by omega), meetTo_p h1 hk]
    have hy : (tbl (16 * n) (meetTo (hV turnV) f i k))[16 * i + k]? = some (f (16 * i + k)) := by rw [tbl_get (by omega), meetTo_q hk]
    have hs : ((tbl (16 * n) (meetTo (hV turnV) f i k)).set (16 * (i - 1) + (15 - k)) (hV turnV k (f (16 * (i - 1) + (15 - k))) (f (16 * i + k))).1).set (16 * i + k) (hV turnV k (f (16 * (i - 1) + (15 - k))) (f (16 * i + k))).2 = tbl (16 * n) (meetTo (hV turnV) f i (k + 1)) := by
      rw [tbl_set, tbl_set]
      exact tbl_congr rfl fun j _ => meetTo_next h1 hk j
    have ht := tt_ok k hk
    have hg := turn_g (f (16 * (i - 1) + (15 - k))) (f (16 * i + k)) (TS.getD (2 * k) 0) (TS.getD (2 * k + 1) 0)
    have hlen : (tbl (16 * n) (meetTo (hV turnV) f i k)).length = 16 * n := tbl_len _ _
    show f15_0 (0, [.n n, .i (i : Int), .i (k : Int), .l h, .l (tbl (16 * n) (meetTo (hV turnV) f i k))]) = some (0, [.n n, .i (i : Int), .i ((k + 1 : Nat) : Int), .l h, .l (tbl (16 * n) (meetTo (hV turnV) f i (k + 1)))])
    rw [← hs]
    generalize tbl (16 * n) (meetTo (hV turnV) f i k) = L at *
    clear hs
    unfold hV
    generalize f (16 * (i - 1) + (15 - k)) = x at *
    generalize f (16 * i + k) = y at *
    generalize TS.getD (2 * k) 0 = P at *
    generalize TS.getD (2 * k + 1) 0 = U at *
    generalize turnV P U x y = r at *
    simp -implicitDefEqProofs only [f15_0, f15_0_0, asI_i, asN_n, asL_l, asB_b, asE_nil, Bool.cond_decide, if_pos (show (k : Int) < 8 by omega), w1, w2, if_pos (show (0 : Int) ≤ ((i - 1 : Nat) : Int) ∧ ((i - 1 : Nat) : Int) < n by omega), if_pos (show (0 : Int) ≤ ((15 - k : Nat) : Int) ∧ ((15 - k : Nat) : Int) < 16 by omega), Int.toNat_natCast, q1, q2, hx, optK_some, if_pos (show (0 : Int) ≤ (i : Int) ∧ (i : Int) < n by omega), if_pos (show (0 : Int) ≤ (k : Int) ∧ (k : Int) < 16 by omega), hy, ht, altK_0, hg, hlen, List.length_set, if_pos (show 16 * (i - 1) + (15 - k) < 16 * n by omega), if_pos (show 16 * i + k < 16 * n by omega), w3]
  · rw [tbl_congr (n := 16 * n) rfl (fun j _ => meetTo_row (h := hV turnV) (f := f) i j)]
    generalize tbl (16 * n) _ = z
    simp -implicitDefEqProofs only [f15_0, f15_0_0, asI_i, asN_n, asL_l, asB_b, asE_nil, Bool.cond_decide, if_neg (show ¬ ((8 : Nat) : Int) < 8 by omega)]
theorem join_ok (n : Nat) (f : Nat → Int) (h1 : 1 ≤ n) (hn : n ≤ 20) : g15 (0, [.n n, .l (tbl (16 * n) f)]) = some (0, [.n n, .l (tbl (16 * n) f), .l (tbl (16 * n) (joinF (hV turnV) n f))]) := by
  have hl : ∀ h : List Int, L15_1 (0, [.n n, .i 1, .l h, .l (tbl (16 * n) f)]) = some (0, [.n n, .l h, .l (tbl (16 * n) (joinF (hV turnV) n f))]) := by
    intro h
    rw [show tbl (16 * n) f = tbl (16 * n) (meetTo (hV turnV) f 1 0) from tbl_congr rfl fun j _ => (meetTo_one j).symm, show tbl (16 * n) (joinF (hV turnV) n f) = tbl (16 * n) (meetTo (hV turnV) f n 0) from tbl_congr rfl fun j _ => (meetTo_all n j).symm]
    refine loop1_run (fun k => [.n n, .i ((k + 1 : Nat) : Int), .l h, .l (tbl (16 * n) (meetTo (hV turnV) f (k + 1) 0))]) (n - 1) (fun k hk => ?_) ?_ (by omega)
    · have hin := jn_in n f h (k + 1) (by omega) (by omega) hn
      have w2 : IntKind.i64.wrap (((k + 1 : Nat) : Int) + 1) = ((k + 1 + 1 : Nat) : Int) := wrap_nat (n := k + 1 + 1) (by omega)
      generalize tbl (16 * n) (meetTo (hV turnV) f (k + 1) 0) = x at *
      generalize tbl (16 * n) (meetTo (hV turnV) f (k + 1 + 1) 0) = z at *
      simp -implicitDefEqProofs only [f15_1, f15_1_0, asI_i, asN_n, asL_l, asB_b, asE_nil, Bool.cond_decide, if_pos (show ((k + 1 : Nat) : Int) < n by omega), hin, altK_0, w2]
    · rw [show n - 1 + 1 = n by omega]
      generalize tbl (16 * n) _ = z
      simp -implicitDefEqProofs only [f15_1, f15_1_0, asI_i, asN_n, asL_l, asB_b, asE_nil, Bool.cond_decide, if_neg (Int.lt_irrefl _)]
  have e1 : List.take (n * 16) (tbl (16 * n) f) = tbl (16 * n) f := List.take_of_length_le (by rw [tbl_len]; omega)
  have e2 : (tbl (16 * n) f).length = 16 * n := tbl_len _ _
  have hl2 := hl (tbl (16 * n) f)
  generalize tbl (16 * n) f = x at *
  simp -implicitDefEqProofs only [g15, g15_0, asI_i, asN_n, asL_l, asB_b, asE_nil, Bool.cond_decide, Nat.zero_add, if_pos (show n * 128 ≤ 70368744177664 by omega), if_pos (show n * 16 ≤ x.length by omega), e1, hl2, altK_0]
/-! ### Flipped halves, and where two blocks meet -/
theorem flip_ok (o : Nat) (h : List Int) (ho : o + 8 ≤ h.length) (hm : o ≤ 1000) : g45 (0, [.n o, .n 8, .l h]) = some (0, [.n 8, .l h, .l (tbl 8 (fun j => h.getD (o + (7 - j)) 0))]) := by
  have hl : L45_0 (0, [.n o, .n 8, .n 8, .n o, .n 8, .i 8, .i 0, .l h, .l (tbl 8 (fun j => if 8 ≤ j + 0 then h.getD (o + (7 - j)) 0 else 0))]) = some (0, [.n 8, .l h, .l (tbl 8 (fun j => if 8 ≤ j + 8 then h.getD (o + (7 - j)) 0 else 0))]) := by
    refine loop1_run (fun k => [.n o, .n 8, .n 8, .n o, .n 8, .i 8, .i (k : Int), .l h, .l (tbl 8 (fun j => if 8 ≤ j + k then h.getD (o + (7 - j)) 0 else 0))]) 8 (fun k hk => ?_) ?_ (by omega)
    · have w1 : IntKind.i64.wrap (((8 : Nat) : Int) - 1) = 7 := by rfl
      have w2 : IntKind.i64.wrap (7 - (k : Int)) = ((7 - k : Nat) : Int) := by rw [wrap64 (by omega) (by omega)]; omega
      have w3 : IntKind.i64.wrap ((k : Int) + 1) = ((k + 1 : Nat) : Int) := wrap_nat (n := k + 1) (by omega)
      have hx : h[k + o]? = some (h.getD (k + o) 0) := get_some (by omega)
      have hs : (tbl 8 (fun j => if 8 ≤ j + k then h.getD (o + (7 - j)) 0 else 0)).set (7 - k) (h.getD (k + o) 0) = tbl 8 (fun j => if 8 ≤ j + (k + 1) then h.getD (o + (7 - j)) 0 else 0) := by
        rw [tbl_set]
        refine tbl_congr rfl fun j hj => ?_
        by_cases c : j = 7 - k
        · rw [if_pos c, if_pos (by omega)]
          congr 1
          omega
        · rw [if_neg c]
          by_cases d : 8 ≤ j + k
          · rw [if_pos d, if_pos (by omega)]
          · rw [if_neg d, if_neg (by omega)]
      have hlen : (tbl 8 (fun j => if 8 ≤ j + k then h.getD (o + (7 - j)) 0 else 0)).length = 8 := tbl_len _ _
      show f45_0 (0, [.n o, .n 8, .n 8, .n o, .n 8, .i 8, .i (k : Int), .l h, .l (tbl 8 (fun j => if 8 ≤ j + k then h.getD (o + (7 - j)) 0 else 0))]) = some (0, [.n o, .n 8, .n 8, .n o, .n 8, .i 8, .i ((k + 1 : Nat) : Int), .l h, .l (tbl 8 (fun j => if 8 ≤ j + (k + 1) then h.getD (o + (7 - j)) 0 else 0))])
      rw [← hs]
      generalize tbl 8 (fun j => if 8 ≤ j + k then h.getD (o + (7 - j)) 0 else 0) = L at *
      generalize h.getD (k + o) 0 = x at *
      simp -implicitDefEqProofs only [f45_0, f45_0_0, asI_i, asN_n, asL_l, asB_b, asE_nil, Bool.cond_decide, if_pos (show (k : Int) < 8 by omega), if_pos (show (0 : Int) ≤ (k : Int) ∧ (k : Int) < ((8 : Nat) : Int) by omega), Int.toNat_natCast, hx, optK_some, w1, w2, if_pos (show (0 : Int) ≤ ((7 - k : Nat) : Int) ∧ ((7 - k : Nat) : Int) < ((8 : Nat) : Int) by omega), hlen, if_pos (show 7 - k < 8 by omega), w3]
    · show f45_0 (0, [.n o, .n 8, .n 8, .n o, .n 8, .i 8, .i ((8 : Nat) : Int), .l h, .l (tbl 8 (fun j => if 8 ≤ j + 8 then h.getD (o + (7 - j)) 0 else 0))]) = _
      generalize tbl 8 _ = z
      kernel_rfl
  rw [show tbl 8 (fun j => if 8 ≤ j + 8 then h.getD (o + (7 - j)) 0 else 0) = tbl 8 (fun j => h.getD (o + (7 - j)) 0) from tbl_congr rfl fun j _ => if_pos (by omega), show tbl 8 (fun j => if 8 ≤ j + 0 then h.getD (o + (7 - j)) 0 else 0) = List.replicate 8 0 from (tbl_congr rfl fun j hj => if_neg (by omega)).trans (tbl_rep 8).symm] at hl
  generalize tbl 8 _ = z at *
  have t8 : Int.toNat ((8 : Nat) : Int) = 8 := rfl
  have c8 : ((8 : Nat) : Int) = 8 := rfl
  simp -implicitDefEqProofs only [g45, g45_0, asI_i, asN_n, asL_l, asB_b, asE_nil, Bool.cond_decide, if_true, c8, if_pos (show (8 : Int) * 8 ≤ 140737488355328 by omega), if_pos (show (8 : Int) ≤ 9223372036854775807 by omega), show Int.toNat 8 = 8 from rfl, hl, altK_0]
theorem pairs_turn (o N : Nat) (x g : Nat → Int) (ho : o + 8 ≤ N) (hm : N ≤ 10000) : g43 (0, [.l TS, .n 8, .n o, .n 8, .l (tbl 8 x), .l (tbl N g)]) = some (0, [.l (tbl 8 (fun j => (hV turnV j (x j) (g (o + j))).1)), .l (tbl N (fun j => if o ≤ j ∧ j < o + 8 then (hV turnV (j - o) (x (j - o)) (g j)).2 else g j))]) := by
  have hl : L43_0 (0, [.n 8, .n o, .n 8, .i 8, .i 0, .l (tbl 8 (fun j => if j < 0 then (hV turnV j (x j) (g (o + j))).1 else x j)), .l (tbl N (fun j => if o ≤ j ∧ j < o + 0 then (hV turnV (j - o) (x (j - o)) (g j)).2 else g j)), .l TS]) = some (0, [.l (tbl 8 (fun j => if j < 8 then (hV turnV j (x j) (g (o + j))).1 else x j)), .l (tbl N (fun j => if o ≤ j ∧ j < o + 8 then (hV turnV (j - o) (x (j - o)) (g j)).2 else g j)), .l TS]) := by
    refine loop1_run (fun k => [.n 8, .n o, .n 8, .i 8, .i (k : Int), .l (tbl 8 (fun j => if j < k then (hV turnV j (x j) (g (o + j))).1 else x j)), .l (tbl N (fun j => if o ≤ j ∧ j < o + k then (hV turnV (j - o) (x (j - o)) (g j)).2 else g j)), .l TS]) 8 (fun k hk => ?_) ?_ (by omega)
    · have w3 : IntKind.i64.wrap ((k : Int) + 1) = ((k + 1 : Nat) : Int) := wrap_nat (n := k + 1) (by omega)
      have q : k + o = o + k := Nat.add_comm _ _
      have hx : (tbl 8 (fun j => if j < k then (hV turnV j (x j) (g (o + j))).1 else x j))[k]? = some (x k) := by rw [tbl_get hk, if_neg (Nat.lt_irrefl k)]
      have hy : (tbl N (fun j => if o ≤ j ∧ j < o + k then (hV turnV (j - o) (x (j - o)) (g j)).2 else g j))[o + k]? = some (g (o + k)) := by rw [tbl_get (by omega), if_neg (by omega)]
      have hs1 : (tbl 8 (fun j => if j < k then (hV turnV j (x j) (g (o + j))).1 else x j)).set k (hV turnV k (x k) (g (o + k))).1 = tbl 8 (fun j => if j < k + 1 then (hV turnV j (x j) (g (o + j))).1 else x j) := by
        rw [tbl_set]
        refine tbl_congr rfl fun j hj => ?_
        by_cases c : j = k
        · subst c
          rw [if_pos rfl, if_pos (by omega)]
        · rw [if_neg c]
          by_cases d : j < k
          · rw [if_pos d, if_pos (by omega)]
          · rw [if_neg d, if_neg (by omega)]
      have hs2 : (tbl N (fun j => if o ≤ j ∧ j < o + k then (hV turnV (j - o) (x (j - o)) (g j)).2 else g j)).set (o + k) (hV turnV k (x k) (g (o + k))).2 = tbl N (fun j => if o ≤ j ∧ j < o + (k + 1) then (hV turnV (j - o) (x (j - o)) (g j)).2 else g j) := by
        rw [tbl_set]
        refine tbl_congr rfl fun j hj => ?_
        by_cases c : j = o + k
        · subst c
          rw [if_pos rfl, if_pos (by omega), Nat.add_sub_cancel_left]
        · rw [if_neg c]
          by_cases d : o ≤ j ∧ j < o + k
          · rw [if_pos d, if_pos (by omega)]
          · rw [if_neg d, if_neg (by omega)]
      have hg := turn_g (x k) (g (o + k)) (TS.getD (2 * k) 0) (TS.getD (2 * k + 1) 0)
      have ht := ts_pair k hk
      have hl1 : (tbl 8 (fun j => if j < k then (hV turnV j (x j) (g (o + j))).1 else x j)).length = 8 := tbl_len _ _
      have hl2 : (tbl N (fun j => if o ≤ j ∧ j < o + k then (hV turnV (j - o) (x (j - o)) (g j)).2 else g j)).length = N := tbl_len _ _
      have hts : TS.length = 16 := rfl
      show f43_0 (0, [.n 8, .n o, .n 8, .i 8, .i (k : Int), .l (tbl 8 (fun j => if j < k then (hV turnV j (x j) (g (o + j))).1 else x j)), .l (tbl N (fun j => if o ≤ j ∧ j < o + k then (hV turnV (j - o) (x (j - o)) (g j)).2 else g j)), .l TS]) = some (0, [.n 8, .n o, .n 8, .i 8, .i ((k + 1 : Nat) : Int), .l (tbl 8 (fun j => if j < k + 1 then (hV turnV j (x j) (g (o + j))).1 else x j)), .l (tbl N (fun j => if o ≤ j ∧ j < o + (k + 1) then (hV turnV (j - o) (x (j - o)) (g j)).2 else g j)), .l TS])
      rw [← hs1, ← hs2]
      generalize tbl 8 (fun j => if j < k then (hV turnV j (x j) (g (o + j))).1 else x j) = X at *
      generalize tbl N (fun j => if o ≤ j ∧ j < o + k then (hV turnV (j - o) (x (j - o)) (g j)).2 else g j) = Y at *
      clear hs1 hs2
      unfold hV
      generalize x k = a at *
      generalize g (o + k) = b at *
      generalize TS.getD (2 * k) 0 = P at *
      generalize TS.getD (2 * k + 1) 0 = U at *
      generalize TS = T0 at *
      generalize turnV P U a b = r at *
      simp -implicitDefEqProofs only [f43_0, f43_0_0, asI_i, asN_n, asL_l, asB_b, asE_nil, Bool.cond_decide, if_pos (show (k : Int) < 8 by omega), if_pos (show (0 : Int) ≤ (k : Int) ∧ (k : Int) < ((8 : Nat) : Int) by omega), if_pos (show (0 : Int) ≤ (k : Int) ∧ (k : Int) < 8 by omega), Int.toNat_natCast, hx, optK_some, q, hy, hts, if_pos (show k * 2 + 2 ≤ 16 by omega), ht, hg, altK_0, hl1, if_pos (show k < 8 by omega), hl2, if_pos (show o + k < N by omega), w3]
    · show f43_0 (0, [.n 8, .n o, .n 8, .i 8, .i ((8 : Nat) : Int), .l (tbl 8 (fun j => if j < 8 then (hV turnV j (x j) (g (o + j))).1 else x j)), .l (tbl N (fun j => if o ≤ j ∧ j < o + 8 then (hV turnV (j - o) (x (j - o)) (g j)).2 else g j)), .l TS]) = _
      generalize tbl 8 _ = z
      generalize tbl N _ = y
      generalize TS = T0
      kernel_rfl
  rw [show tbl 8 (fun j => if j < 8 then (hV turnV j (x j) (g (o + j))).1 else x j) = tbl 8 (fun j => (hV turnV j (x j) (g (o + j))).1) from tbl_congr rfl fun j hj => if_pos hj, show tbl 8 (fun j => if j < 0 then (hV turnV j (x j) (g (o + j))).1 else x j) = tbl 8 x from tbl_congr rfl fun j hj => if_neg (by omega), show tbl N (fun j => if o ≤ j ∧ j < o + 0 then (hV turnV (j - o) (x (j - o)) (g j)).2 else g j) = tbl N g from tbl_congr rfl fun j hj => if_neg (by omega)] at hl
  generalize tbl 8 _ = A1 at *
  generalize tbl N _ = A2 at *
  generalize tbl 8 _ = A3 at *
  generalize tbl N _ = A4 at *
  generalize TS = T0 at *
  have c8 : ((8 : Nat) : Int) = 8 := rfl
  simp -implicitDefEqProofs only [g43, g43_0, asI_i, asN_n, asL_l, asB_b, asE_nil, Bool.cond_decide, c8, if_neg (show ¬ (8 : Int) < 8 by omega), ite_self, hl, altK_0]
theorem pairs_back (o N : Nat) (x g : Nat → Int) (ho : o + 8 ≤ N) (hm : N ≤ 10000) : g44 (0, [.l TS, .n 8, .n o, .n 8, .l (tbl 8 x), .l (tbl N g)]) = some (0, [.l (tbl 8 (fun j => (hV backV j (x j) (g (o + j))).1)), .l (tbl N (fun j => if o ≤ j ∧ j < o + 8 then (hV backV (j - o) (x (j - o)) (g j)).2 else g j))]) := by
  have hl : L44_0 (0, [.n 8, .n o, .n 8, .i 8, .i 0, .l (tbl 8 (fun j => if j < 0 then (hV backV j (x j) (g (o + j))).1 else x j)), .l (tbl N (fun j => if o ≤ j ∧ j < o + 0 then (hV backV (j - o) (x (j - o)) (g j)).2 else g j)), .l TS]) = some (0, [.l (tbl 8 (fun j => if j < 8 then (hV backV j (x j) (g (o + j))).1 else x j)), .l (tbl N (fun j => if o ≤ j ∧ j < o + 8 then (hV backV (j - o) (x (j - o)) (g j)).2 else g j)), .l TS]) := by
    refine loop1_run (fun k => [.n 8, .n o, .n 8, .i 8, .i (k : Int), .l (tbl 8 (fun j => if j < k then (hV backV j (x j) (g (o + j))).1 else x j)), .l (tbl N (fun j => if o ≤ j ∧ j < o + k then (hV backV (j - o) (x (j - o)) (g j)).2 else g j)), .l TS]) 8 (fun k hk => ?_) ?_ (by omega)
    · have w3 : IntKind.i64.wrap ((k : Int) + 1) = ((k + 1 : Nat) : Int) := wrap_nat (n := k + 1) (by omega)
      have q : k + o = o + k := Nat.add_comm _ _
      have hx : (tbl 8 (fun j => if j < k then (hV backV j (x j) (g (o + j))).1 else x j))[k]? = some (x k) := by rw [tbl_get hk, if_neg (Nat.lt_irrefl k)]
      have hy : (tbl N (fun j => if o ≤ j ∧ j < o + k then (hV backV (j - o) (x (j - o)) (g j)).2 else g j))[o + k]? = some (g (o + k)) := by rw [tbl_get (by omega), if_neg (by omega)]
      have hs1 : (tbl 8 (fun j => if j < k then (hV backV j (x j) (g (o + j))).1 else x j)).set k (hV backV k (x k) (g (o + k))).1 = tbl 8 (fun j => if j < k + 1 then (hV backV j (x j) (g (o + j))).1 else x j) := by
        rw [tbl_set]
        refine tbl_congr rfl fun j hj => ?_
        by_cases c : j = k
        · subst c
          rw [if_pos rfl, if_pos (by omega)]
        · rw [if_neg c]
          by_cases d : j < k
          · rw [if_pos d, if_pos (by omega)]
          · rw [if_neg d, if_neg (by omega)]
      have hs2 : (tbl N (fun j => if o ≤ j ∧ j < o + k then (hV backV (j - o) (x (j - o)) (g j)).2 else g j)).set (o + k) (hV backV k (x k) (g (o + k))).2 = tbl N (fun j => if o ≤ j ∧ j < o + (k + 1) then (hV backV (j - o) (x (j - o)) (g j)).2 else g j) := by
        rw [tbl_set]
        refine tbl_congr rfl fun j hj => ?_
        by_cases c : j = o + k
        · subst c
          rw [if_pos rfl, if_pos (by omega), Nat.add_sub_cancel_left]
        · rw [if_neg c]
          by_cases d : o ≤ j ∧ j < o + k
          · rw [if_pos d, if_pos (by omega)]
          · rw [if_neg d, if_neg (by omega)]
      have hg := back_g (x k) (g (o + k)) (TS.getD (2 * k) 0) (TS.getD (2 * k + 1) 0)
      have ht := ts_pair k hk
      have hl1 : (tbl 8 (fun j => if j < k then (hV backV j (x j) (g (o + j))).1 else x j)).length = 8 := tbl_len _ _
      have hl2 : (tbl N (fun j => if o ≤ j ∧ j < o + k then (hV backV (j - o) (x (j - o)) (g j)).2 else g j)).length = N := tbl_len _ _
      have hts : TS.length = 16 := rfl
      show f44_0 (0, [.n 8, .n o, .n 8, .i 8, .i (k : Int), .l (tbl 8 (fun j => if j < k then (hV backV j (x j) (g (o + j))).1 else x j)), .l (tbl N (fun j => if o ≤ j ∧ j < o + k then (hV backV (j - o) (x (j - o)) (g j)).2 else g j)), .l TS]) = some (0, [.n 8, .n o, .n 8, .i 8, .i ((k + 1 : Nat) : Int), .l (tbl 8 (fun j => if j < k + 1 then (hV backV j (x j) (g (o + j))).1 else x j)), .l (tbl N (fun j => if o ≤ j ∧ j < o + (k + 1) then (hV backV (j - o) (x (j - o)) (g j)).2 else g j)), .l TS])
      rw [← hs1, ← hs2]
      generalize tbl 8 (fun j => if j < k then (hV backV j (x j) (g (o + j))).1 else x j) = X at *
      generalize tbl N (fun j => if o ≤ j ∧ j < o + k then (hV backV (j - o) (x (j - o)) (g j)).2 else g j) = Y at *
      clear hs1 hs2
      unfold hV
      generalize x k = a at *
      generalize g (o + k) = b at *
      generalize TS.getD (2 * k) 0 = P at *
      generalize TS.getD (2 * k + 1) 0 = U at *
      generalize TS = T0 at *
      generalize backV P U a b = r at *
      simp -implicitDefEqProofs only [f44_0, f44_0_0, asI_i, asN_n, asL_l, asB_b, asE_nil, Bool.cond_decide, if_pos (show (k : Int) < 8 by omega), if_pos (show (0 : Int) ≤ (k : Int) ∧ (k : Int) < ((8 : Nat) : Int) by omega), if_pos (show (0 : Int) ≤ (k : Int) ∧ (k : Int) < 8 by omega), Int.toNat_natCast, hx, optK_some, q, hy, hts, if_pos (show k * 2 + 2 ≤ 16 by omega), ht, hg, altK_0, hl1, if_pos (show k < 8 by omega), hl2, if_pos (show o + k < N by omega), w3]
    · show f44_0 (0, [.n 8, .n o, .n 8, .i 8, .i ((8 : Nat) : Int), .l (tbl 8 (fun j => if j < 8 then (hV backV j (x j) (g (o + j))).1 else x j)), .l (tbl N (fun j => if o ≤ j ∧ j < o + 8 then (hV backV (j - o) (x (j - o)) (g j)).2 else g j)), .l TS]) = _
      generalize tbl 8 _ = z
      generalize tbl N _ = y
      generalize TS = T0
      kernel_rfl
  rw [show tbl 8 (fun j => if j < 8 then (hV backV j (x j) (g (o + j))).1 else x j) = tbl 8 (fun j => (hV backV j (x j) (g (o + j))).1) from tbl_congr rfl fun j hj => if_pos hj, show tbl 8 (fun j => if j < 0 then (hV backV j (x j) (g (o + j))).1 else x j) = tbl 8 x from tbl_congr rfl fun j hj => if_neg (by omega), show tbl N (fun j => if o ≤ j ∧ j < o + 0 then (hV backV (j - o) (x (j - o)) (g j)).2 else g j) = tbl N g from tbl_congr rfl fun j hj => if_neg (by omega)] at hl
  generalize tbl 8 _ = A1 at *
  generalize tbl N _ = A2 at *
  generalize tbl 8 _ = A3 at *
  generalize tbl N _ = A4 at *
  generalize TS = T0 at *
  have c8 : ((8 : Nat) : Int) = 8 := rfl
  simp -implicitDefEqProofs only [g44, g44_0, asI_i, asN_n, asL_l, asB_b, asE_nil, Bool.cond_decide, c8, if_neg (show ¬ (8 : Int) < 8 by omega), ite_self, hl, altK_0]
end Go.Proofs.Ytmmfgbifbbiihaa
