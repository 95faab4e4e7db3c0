/-
  The law of any samples' spectra. Conditions: none.
-/
import Derived.Test.YtmmfgbifbbiihaaLapE
import Derived.Test.YtmmfgbifbbiihaaDecS5
import Derived.KernelRfl
namespace Go.Proofs.Ytmmfgbifbbiihaa
open Go Go.Sx S
set_option maxRecDepth 100000
set_option linter.unusedVariables false
attribute [local simp] asI_i asB_b asL_l asN_n asS_s asE_nil altK_none altK_0 altK_1 altK_2 altK_3 optK_some optK_none Bool.cond_decide Bool.cond_not Int.toNat_natCast
set_option linter.unusedSimpArgs false

theorem sl_3 (B : Nat) (F : Nat → Int) (N m : Nat) (a b c d Y : List Int) (hB : B ≤ 20) : L5_1 (3, [.n N, .n m, .n B, .i 0, .l a, .l b, .l c, .l d, .l Y, .l (tbl (16 * B) (blkTo fG F 0))]) = some (3, [.n N, .n m, .n B, .l a, .l b, .l c, .l d, .l Y, .l (tbl (16 * B) (blkTo fG F B))]) := by
  refine loopL_run (m := 14) (f := f5_1) (fun k => (3, [.n N, .n m, .n B, .i (k : Int), .l a, .l b, .l c, .l d, .l Y, .l (tbl (16 * B) (blkTo fG F k))])) B (fun k hk => ⟨?_, by show 3 < 14; omega⟩) ?_ (by omega)
  · show f5_1 (3, [.n N, .n m, .n B, .i (k : Int), .l a, .l b, .l c, .l d, .l Y, .l (tbl (16 * B) (blkTo fG F k))]) = some (3, [.n N, .n m, .n B, .i ((k + 1 : Nat) : Int), .l a, .l b, .l c, .l d, .l Y, .l (tbl (16 * B) (blkTo fG F (k + 1)))])
    have w2 : IntKind.i64.wrap ((k : Int) + 1) = ((k + 1 : Nat) : Int) := wrap_nat (n := k + 1) (by omega)
    have hlen : (tbl (16 * B) (blkTo fG F k)).length = 16 * B := tbl_len _ _
    have hread := blkTo_read (N := 16 * B) (k := k) fG F (by omega)
    have h16 : (tbl 16 (fun c => F (16 * k + c))).length = 16 := tbl_len _ _
    have hgl : (fG k (tbl 16 (fun c => F (16 * k + c)))).length = 16 := fG_len h16
    have hput := blkTo_put (N := 16 * B) (k := k) (G := fG) (f := F) hgl (by omega)
    rw [hgl] at hput
    rw [← hput]
    have hc := g17_ok TS (tbl 16 (fun c => F (16 * k + c))) rfl h16
    rw [show roundsV turnV TS rsF (tbl 16 (fun c => F (16 * k + c))) = fG k (tbl 16 (fun c => F (16 * k + c))) from rfl] at hc
    generalize tbl (16 * B) (blkTo fG F k) = X at *
    generalize tbl 16 (fun c => F (16 * k + c)) = x at *
    generalize fG k x = R at *
    simp -implicitDefEqProofs only [f5_1, f5_1_3, asI_i, asN_n, asL_l, asB_b, asE_nil, Bool.cond_decide, if_pos (show (k : Int) < B by omega), net_new, if_pos (show (0 : Int) ≤ k ∧ (k : Int) < B by omega), Int.toNat_natCast, hlen, if_pos (show k * 16 + 16 ≤ 16 * B by omega), hread, hc, altK_0, if_true, hgl, w2]
  · show f5_1 (3, [.n N, .n m, .n B, .i (B : Int), .l a, .l b, .l c, .l d, .l Y, .l (tbl (16 * B) (blkTo fG F B))]) = _
    generalize tbl (16 * B) (blkTo fG F B) = z
    simp -implicitDefEqProofs only [f5_1, f5_1_3, asI_i, asN_n, asL_l, asB_b, asE_nil, Bool.cond_decide, if_neg (Int.lt_irrefl _)]
theorem sl_2 (B : Nat) (F : Nat → Int) (N : Nat) (a b c Y : List Int) (hB : B ≤ 20) : L5_1 (2, [.n N, .n B, .i 0, .l a, .l b, .l c, .l Y, .l (tbl (16 * B) (blkTo fG F 0))]) = some (2, [.n N, .n B, .l a, .l b, .l c, .l Y, .l (tbl (16 * B) (blkTo fG F B))]) := by
  refine loopL_run (m := 14) (f := f5_1) (fun k => (2, [.n N, .n B, .i (k : Int), .l a, .l b, .l c, .l Y, .l (tbl (16 * B) (blkTo fG F k))])) B (fun k hk => ⟨?_, by show 2 < 14; omega⟩) ?_ (by omega)
  · show f5_1 (2, [.n N, .n B, .i (k : Int), .l a, .l b, .l c, .l Y, .l (tbl (16 * B) (blkTo fG F k))]) = some (2, [.n N, .n B, .i ((k + 1 : Nat) : Int), .l a, .l b, .l c, .l Y, .l (tbl (16 * B) (blkTo fG F (k + 1)))])
    have w2 : IntKind.i64.wrap ((k : Int) + 1) = ((k + 1 : Nat) : Int) := wrap_nat (n := k + 1) (by omega)
    have hlen : (tbl (16 * B) (blkTo fG F k)).length = 16 * B := tbl_len _ _
    have hread := blkTo_read (N := 16 * B) (k := k) fG F (by omega)
    have h16 : (tbl 16 (fun c => F (16 * k + c))).length = 16 := tbl_len _ _
    have hgl : (fG k (tbl 16 (fun c => F (16 * k + c)))).length = 16 := fG_len h16
    have hput := blkTo_put (N := 16 * B) (k := k) (G := fG) (f := F) hgl (by omega)
    rw [hgl] at hput
    rw [← hput]
    have hc := g17_ok TS (tbl 16 (fun c => F (16 * k + c))) rfl h16
    rw [show roundsV turnV TS rsF (tbl 16 (fun c => F (16 * k + c))) = fG k (tbl 16 (fun c => F (16 * k + c))) from rfl] at hc
    generalize tbl (16 * B) (blkTo fG F k) = X at *
    generalize tbl 16 (fun c => F (16 * k + c)) = x at *
    generalize fG k x = R at *
    simp -implicitDefEqProofs only [f5_1, f5_1_2, asI_i, asN_n, asL_l, asB_b, asE_nil, Bool.cond_decide, if_pos (show (k : Int) < B by omega), net_new, if_pos (show (0 : Int) ≤ k ∧ (k : Int) < B by omega), Int.toNat_natCast, hlen, if_pos (show k * 16 + 16 ≤ 16 * B by omega), hread, hc, altK_0, if_true, hgl, w2]
  · show f5_1 (2, [.n N, .n B, .i (B : Int), .l a, .l b, .l c, .l Y, .l (tbl (16 * B) (blkTo fG F B))]) = _
    generalize tbl (16 * B) (blkTo fG F B) = z
    simp -implicitDefEqProofs only [f5_1, f5_1_2, asI_i, asN_n, asL_l, asB_b, asE_nil, Bool.cond_decide, if_neg (Int.lt_irrefl _)]
theorem sl_5 (B : Nat) (F : Nat → Int) (N : Nat) (a b Y : List Int) (hB : B ≤ 20) : L5_1 (5, [.n N, .n B, .i 0, .l a, .l b, .l Y, .l (tbl (16 * B) (blkTo fG F 0))]) = some (5, [.n N, .n B, .l a, .l b, .l Y, .l (tbl (16 * B) (blkTo fG F B))]) := by
  refine loopL_run (m := 14) (f := f5_1) (fun k => (5, [.n N, .n B, .i (k : Int), .l a, .l b, .l Y, .l (tbl (16 * B) (blkTo fG F k))])) B (fun k hk => ⟨?_, by show 5 < 14; omega⟩) ?_ (by omega)
  · show f5_1 (5, [.n N, .n B, .i (k : Int), .l a, .l b, .l Y, .l (tbl (16 * B) (blkTo fG F k))]) = some (5, [.n N, .n B, .i ((k + 1 : Nat) : Int), .l a, .l b, .l Y, .l (tbl (16 * B) (blkTo fG F (k + 1)))])
    have w2 : IntKind.i64.wrap ((k : Int) + 1) = ((k + 1 : Nat) : Int) := wrap_nat (n := k + 1) (by omega)
    have hlen : (tbl (16 * B) (blkTo fG F k)).length = 16 * B := tbl_len _ _
    have hread := blkTo_read (N := 16 * B) (k := k) fG F (by omega)
    have h16 : (tbl 16 (fun c => F (16 * k + c))).length = 16 := tbl_len _ _
    have hgl : (fG k (tbl 16 (fun c => F (16 * k + c)))).length = 16 := fG_len h16
    have hput := blkTo_put (N := 16 * B) (k := k) (G := fG) (f := F) hgl (by omega)
    rw [hgl] at hput
    rw [← hput]
    have hc := g17_ok TS (tbl 16 (fun c => F (16 * k + c))) rfl h16
    rw [show roundsV turnV TS rsF (tbl 16 (fun c => F (16 * k + c))) = fG k (tbl 16 (fun c => F (16 * k + c))) from rfl] at hc
    generalize tbl (16 * B) (blkTo fG F k) = X at *
    generalize tbl 16 (fun c => F (16 * k + c)) = x at *
    generalize fG k x = R at *
    simp -implicitDefEqProofs only [f5_1, f5_1_5, asI_i, asN_n, asL_l, asB_b, asE_nil, Bool.cond_decide, if_pos (show (k : Int) < B by omega), net_new, if_pos (show (0 : Int) ≤ k ∧ (k : Int) < B by omega), Int.toNat_natCast, hlen, if_pos (show k * 16 + 16 ≤ 16 * B by omega), hread, hc, altK_0, if_true, hgl, w2]
  · show f5_1 (5, [.n N, .n B, .i (B : Int), .l a, .l b, .l Y, .l (tbl (16 * B) (blkTo fG F B))]) = _
    generalize tbl (16 * B) (blkTo fG F B) = z
    simp -implicitDefEqProofs only [f5_1, f5_1_5, asI_i, asN_n, asL_l, asB_b, asE_nil, Bool.cond_decide, if_neg (Int.lt_irrefl _)]
theorem sl_7 (B : Nat) (F : Nat → Int) (N : Nat) (a b Y : List Int) (hB : B ≤ 20) : L5_1 (7, [.n N, .n B, .i 0, .l a, .l b, .l Y, .l (tbl (16 * B) (blkTo fG F 0))]) = some (7, [.n N, .n B, .l a, .l b, .l Y, .l (tbl (16 * B) (blkTo fG F B))]) := by
  refine loopL_run (m := 14) (f := f5_1) (fun k => (7, [.n N, .n B, .i (k : Int), .l a, .l b, .l Y, .l (tbl (16 * B) (blkTo fG F k))])) B (fun k hk => ⟨?_, by show 7 < 14; omega⟩) ?_ (by omega)
  · show f5_1 (7, [.n N, .n B, .i (k : Int), .l a, .l b, .l Y, .l (tbl (16 * B) (blkTo fG F k))]) = some (7, [.n N, .n B, .i ((k + 1 : Nat) : Int), .l a, .l b, .l Y, .l (tbl (16 * B) (blkTo fG F (k + 1)))])
    have w2 : IntKind.i64.wrap ((k : Int) + 1) = ((k + 1 : Nat) : Int) := wrap_nat (n := k + 1) (by omega)
    have hlen : (tbl (16 * B) (blkTo fG F k)).length = 16 * B := tbl_len _ _
    have hread := blkTo_read (N := 16 * B) (k := k) fG F (by omega)
    have h16 : (tbl 16 (fun c => F (16 * k + c))).length = 16 := tbl_len _ _
    have hgl : (fG k (tbl 16 (fun c => F (16 * k + c)))).length = 16 := fG_len h16
    have hput := blkTo_put (N := 16 * B) (k := k) (G := fG) (f := F) hgl (by omega)
    rw [hgl] at hput
    rw [← hput]
    have hc := g17_ok TS (tbl 16 (fun c => F (16 * k + c))) rfl h16
    rw [show roundsV turnV TS rsF (tbl 16 (fun c => F (16 * k + c))) = fG k (tbl 16 (fun c => F (16 * k + c))) from rfl] at hc
    generalize tbl (16 * B) (blkTo fG F k) = X at *
    generalize tbl 16 (fun c => F (16 * k + c)) = x at *
    generalize fG k x = R at *
    simp -implicitDefEqProofs only [f5_1, f5_1_7, asI_i, asN_n, asL_l, asB_b, asE_nil, Bool.cond_decide, if_pos (show (k : Int) < B by omega), net_new, if_pos (show (0 : Int) ≤ k ∧ (k : Int) < B by omega), Int.toNat_natCast, hlen, if_pos (show k * 16 + 16 ≤ 16 * B by omega), hread, hc, altK_0, if_true, hgl, w2]
  · show f5_1 (7, [.n N, .n B, .i (B : Int), .l a, .l b, .l Y, .l (tbl (16 * B) (blkTo fG F B))]) = _
    generalize tbl (16 * B) (blkTo fG F B) = z
    simp -implicitDefEqProofs only [f5_1, f5_1_7, asI_i, asN_n, asL_l, asB_b, asE_nil, Bool.cond_decide, if_neg (Int.lt_irrefl _)]
theorem sl_up (B : Nat) (F : Nat → Int) (N m : Nat) (a b c G : List Int) (hG : G.length = m * 4) (hB : B ≤ 20) : L5_0 (3, [.n N, .n m, .n B, .i 0, .l a, .l b, .l c, .l G, .l (tbl (16 * B) (blkTo (uG m G) F 0))]) = some (3, [.n N, .n m, .n B, .l a, .l b, .l c, .l G, .l (tbl (16 * B) (blkF (uG m G) F))]) := by
  have hend : tbl (16 * B) (blkTo (uG m G) F (min B m)) = tbl (16 * B) (blkF (uG m G) F) := by
    refine tbl_congr rfl fun j hj => ?_
    unfold blkTo
    by_cases cc : j / 16 < min B m
    · rw [if_pos cc]
    · rw [if_neg cc]
      unfold blkF uG
      rw [if_neg (by omega), tbl_getD (by omega)]
      congr 1
      omega
  rw [← hend]
  refine loopL_run (m := 14) (f := f5_0) (fun k => (3, [.n N, .n m, .n B, .i (k : Int), .l a, .l b, .l c, .l G, .l (tbl (16 * B) (blkTo (uG m G) F k))])) (min B m) (fun k hk => ⟨?_, by show 3 < 14; omega⟩) ?_ (by omega)
  · show f5_0 (3, [.n N, .n m, .n B, .i (k : Int), .l a, .l b, .l c, .l G, .l (tbl (16 * B) (blkTo (uG m G) F k))]) = some (3, [.n N, .n m, .n B, .i ((k + 1 : Nat) : Int), .l a, .l b, .l c, .l G, .l (tbl (16 * B) (blkTo (uG m G) F (k + 1)))])
    have w2 : IntKind.i64.wrap ((k : Int) + 1) = ((k + 1 : Nat) : Int) := wrap_nat (n := k + 1) (by omega)
    have hlen : (tbl (16 * B) (blkTo (uG m G) F k)).length = 16 * B := tbl_len _ _
    have hread := blkTo_read (N := 16 * B) (k := k) (uG m G) F (by omega)
    have h16 : (tbl 16 (fun c => F (16 * k + c))).length = 16 := tbl_len _ _
    have hgl : (uG m G k (tbl 16 (fun c => F (16 * k + c)))).length = 16 := uG_len h16
    have hput := blkTo_put (N := 16 * B) (k := k) (G := uG m G) (f := F) hgl (by omega)
    rw [hgl] at hput
    rw [← hput]
    have hgn := gn_len (G := G) (k := k) (by omega)
    have hG0 : uG m G k (tbl 16 (fun c => F (16 * k + c))) = upB (tbl 16 (fun c => F (16 * k + c))) (gn G k) := if_pos (by omega)
    have hc := up_ok (tbl 16 (fun c => F (16 * k + c))) (gn G k) h16 hgn
    rw [← hG0] at hc
    have hgg : List.take 4 (List.drop (k * 4) G) = gn G k := rfl
    clear hG0
    generalize tbl (16 * B) (blkTo (uG m G) F k) = X at *
    generalize tbl 16 (fun c => F (16 * k + c)) = x at *
    generalize uG m G k x = R at *
    simp -implicitDefEqProofs only [f5_0, f5_0_3, asI_i, asN_n, asL_l, asB_b, asE_nil, Bool.cond_decide, if_pos (show (k : Int) < B by omega), if_pos (show (k : Int) < m by omega), if_pos (show (0 : Int) ≤ k ∧ (k : Int) < B by omega), if_pos (show (0 : Int) ≤ k ∧ (k : Int) < m by omega), if_pos (show k * 4 + 4 ≤ G.length by omega), Int.toNat_natCast, hlen, if_pos (show k * 16 + 16 ≤ 16 * B by omega), hread, hgg, hc, altK_0, if_true, hgl, w2]
  · show f5_0 (3, [.n N, .n m, .n B, .i ((min B m : Nat) : Int), .l a, .l b, .l c, .l G, .l (tbl (16 * B) (blkTo (uG m G) F (min B m)))]) = _
    generalize tbl (16 * B) (blkTo (uG m G) F (min B m)) = z
    simp -implicitDefEqProofs only [f5_0, f5_0_3, asI_i, asN_n, asL_l, asB_b, asE_nil, Bool.cond_decide]
    by_cases cc : ((min B m : Nat) : Int) < B
    · rw [if_pos cc, if_neg (by omega)]
    · rw [if_neg cc]
theorem su_2 (B : Nat) (X : List Int) (N : Nat) (a b c : List Int) : L5_0 (2, [.n N, .n B, .i 0, .l a, .l b, .l c, .l X]) = some (2, [.n N, .n B, .l a, .l b, .l c, .l X]) := by
  refine loopL_last (m := 14) (f := f5_0) (j := 2) ?_
  simp -implicitDefEqProofs only [f5_0, f5_0_2, asI_i, asN_n, asL_l, asB_b, asE_nil, Bool.cond_decide, if_neg (show ¬ (0 : Int) < 0 by omega), ite_self]
theorem su_5 (B : Nat) (X : List Int) (N : Nat) (a b : List Int) : L5_0 (5, [.n N, .n B, .i 0, .l a, .l b, .l X]) = some (5, [.n N, .n B, .l a, .l b, .l X]) := by
  refine loopL_last (m := 14) (f := f5_0) (j := 5) ?_
  simp -implicitDefEqProofs only [f5_0, f5_0_5, asI_i, asN_n, asL_l, asB_b, asE_nil, Bool.cond_decide, if_neg (show ¬ (0 : Int) < 0 by omega), ite_self]
theorem su_7 (B : Nat) (X : List Int) (N : Nat) (a b : List Int) : L5_0 (7, [.n N, .n B, .i 0, .l a, .l b, .l X]) = some (7, [.n N, .n B, .l a, .l b, .l X]) := by
  refine loopL_last (m := 14) (f := f5_0) (j := 7) ?_
  simp -implicitDefEqProofs only [f5_0, f5_0_7, asI_i, asN_n, asL_l, asB_b, asE_nil, Bool.cond_decide, if_neg (show ¬ (0 : Int) < 0 by omega), ite_self]
theorem altK_7v {α : Type} (r : List Leaf) (k0 k1 k2 k3 k4 k5 k6 k7 : List Leaf → α) (ks : List (List Leaf → α)) (z : α) : altK (some (7, r)) (k0 :: k1 :: k2 :: k3 :: k4 :: k5 :: k6 :: k7 :: ks) z = k7 r := rfl
theorem sp_lg (n m : Nat) (l G : List Int) (hn : l.length = n) (hG : G.length = 4 * m) (h1 : 1 ≤ n) (h2 : 1 ≤ m) (hm : n < 9223372036854775808) (hm' : m < 9223372036854775808) : g5 (0, [.n n, .n m, .l l, .l G]) = some (0, [.b true, .l l, .l G]) := by
  have e1 := few_ok l n hn h1 hm
  have e2 := fewG_ok m G hG h2 hm'
  have hlen := fewV_len l
  generalize hN : min 200 n = N at *
  generalize hM : min 20 m = M at *
  have hgl : (gL G M).length = M * 4 := by rw [← hM]; exact gL_len4 hG
  generalize gL G M = H at *
  have e3 := blocks_ok (fewV l) N (by omega) (by omega) (by omega)
  have e8 := spec_g N ((N + 15) / 16) M (fewV l) H (by omega) (by omega) (by omega) rfl hgl
  generalize hB : (N + 15) / 16 = B at *
  rw [pad_tbl (fewV l) N (16 * B) (by omega) (by omega)] at e3
  have e4 := sl_up B (f0 (fewV l) N) N M l G (fewV l) H hgl (by omega)
  rw [blkTo_zero] at e4
  have e5 := join_ok B (blkF (uG M H) (f0 (fewV l) N)) (by omega) (by omega)
  have e6 := sl_3 B (joinF (hV turnV) B (blkF (uG M H) (f0 (fewV l) N))) N M l G (fewV l) H (tbl (16 * B) (blkF (uG M H) (f0 (fewV l) N))) (by omega)
  rw [blkTo_zero, blkTo_all] at e6
  have e9 := sameB_ok B (tbl (16 * B) (spF B (blkF (uG M H) (f0 (fewV l) N)))) (by rw [tbl_len]; omega) (by omega)
  unfold spF at *
  generalize tbl (16 * B) (blkF fG (joinF (hV turnV) B (blkF (uG M H) (f0 (fewV l) N)))) = X3 at *
  generalize tbl (16 * B) (joinF (hV turnV) B (blkF (uG M H) (f0 (fewV l) N))) = X2 at *
  generalize tbl (16 * B) (blkF (uG M H) (f0 (fewV l) N)) = X1 at *
  generalize tbl (16 * B) (f0 (fewV l) N) = X0 at *
  generalize fewV l = L at *
  simp -implicitDefEqProofs only [g5, g5_0, asI_i, asN_n, asL_l, asB_b, asE_nil, Bool.cond_decide, e1, altK_1, e2, altK_3, e3, altK_0, e4, e5, e6, lap_new', e8, e9, cond_true, awakeL_ok]
theorem sp_l0 (n : Nat) (l G : List Int) (hn : l.length = n) (h1 : 1 ≤ n) (hm : n < 9223372036854775808) : g5 (0, [.n n, .n 0, .l l, .l G]) = some (0, [.b true, .l l, .l G]) := by
  have e1 := few_ok l n hn h1 hm
  have hlen := fewV_len l
  generalize hN : min 200 n = N at *
  have e3 := blocks_ok (fewV l) N (by omega) (by omega) (by omega)
  have e8 := spec_n N ((N + 15) / 16) (fewV l) (by omega) (by omega) (by omega) rfl
  generalize hB : (N + 15) / 16 = B at *
  rw [pad_tbl (fewV l) N (16 * B) (by omega) (by omega)] at e3
  have e4 := su_2 B (tbl (16 * B) (f0 (fewV l) N)) N l G (fewV l)
  have e5 := join_ok B (f0 (fewV l) N) (by omega) (by omega)
  have e6 := sl_2 B (joinF (hV turnV) B (f0 (fewV l) N)) N l G (fewV l) (tbl (16 * B) (f0 (fewV l) N)) (by omega)
  rw [blkTo_zero, blkTo_all] at e6
  have e9 := sameB_ok B (tbl (16 * B) (spF B (f0 (fewV l) N))) (by rw [tbl_len]; omega) (by omega)
  unfold spF at *
  generalize tbl (16 * B) (blkF fG (joinF (hV turnV) B (f0 (fewV l) N))) = X3 at *
  generalize tbl (16 * B) (joinF (hV turnV) B (f0 (fewV l) N)) = X2 at *
  generalize tbl (16 * B) (f0 (fewV l) N) = X0 at *
  generalize fewV l = L at *
  simp -implicitDefEqProofs only [g5, g5_0, asI_i, asN_n, asL_l, asB_b, asE_nil, Bool.cond_decide, e1, altK_1, fewG_0, altK_0, e3, altK_0, e4, altK_2, altK_5, altK_7v, e5, e6, lap_new', e8, altK_3, e9, cond_true, awakeL_ok]
theorem sp_ln (n : Nat) (l : List Int) (hn : l.length = n) (h1 : 1 ≤ n) (hm : n < 9223372036854775808) : g5 (1, [.n n, .l l]) = some (1, [.b true, .l l]) := by
  have e1 := few_ok l n hn h1 hm
  have hlen := fewV_len l
  generalize hN : min 200 n = N at *
  have e3 := blocks_ok (fewV l) N (by omega) (by omega) (by omega)
  have e8 := spec_n N ((N + 15) / 16) (fewV l) (by omega) (by omega) (by omega) rfl
  generalize hB : (N + 15) / 16 = B at *
  rw [pad_tbl (fewV l) N (16 * B) (by omega) (by omega)] at e3
  have e4 := su_5 B (tbl (16 * B) (f0 (fewV l) N)) N l (fewV l)
  have e5 := join_ok B (f0 (fewV l) N) (by omega) (by omega)
  have e6 := sl_5 B (joinF (hV turnV) B (f0 (fewV l) N)) N l (fewV l) (tbl (16 * B) (f0 (fewV l) N)) (by omega)
  rw [blkTo_zero, blkTo_all] at e6
  have e9 := sameB_ok B (tbl (16 * B) (spF B (f0 (fewV l) N))) (by rw [tbl_len]; omega) (by omega)
  unfold spF at *
  generalize tbl (16 * B) (blkF fG (joinF (hV turnV) B (f0 (fewV l) N))) = X3 at *
  generalize tbl (16 * B) (joinF (hV turnV) B (f0 (fewV l) N)) = X2 at *
  generalize tbl (16 * B) (f0 (fewV l) N) = X0 at *
  generalize fewV l = L at *
  simp -implicitDefEqProofs only [g5, g5_1, asI_i, asN_n, asL_l, asB_b, asE_nil, Bool.cond_decide, e1, altK_1, fewG_nil, altK_1, e3, altK_0, e4, altK_2, altK_5, altK_7v, e5, e6, lap_new', e8, altK_3, e9, cond_true, awakeL_ok]
theorem sp_ld (n : Nat) (l : List Int) (hn : l.length = n) (h1 : 1 ≤ n) (hm : n < 9223372036854775808) : g5 (2, [.n n, .n 0, .l l]) = some (2, [.b true, .l l]) := by
  have e1 := few_ok l n hn h1 hm
  have hlen := fewV_len l
  generalize hN : min 200 n = N at *
  have e3 := blocks_ok (fewV l) N (by omega) (by omega) (by omega)
  have e8 := spec_n N ((N + 15) / 16) (fewV l) (by omega) (by omega) (by omega) rfl
  generalize hB : (N + 15) / 16 = B at *
  rw [pad_tbl (fewV l) N (16 * B) (by omega) (by omega)] at e3
  have e4 := su_7 B (tbl (16 * B) (f0 (fewV l) N)) N l (fewV l)
  have e5 := join_ok B (f0 (fewV l) N) (by omega) (by omega)
  have e6 := sl_7 B (joinF (hV turnV) B (f0 (fewV l) N)) N l (fewV l) (tbl (16 * B) (f0 (fewV l) N)) (by omega)
  rw [blkTo_zero, blkTo_all] at e6
  have e9 := sameB_ok B (tbl (16 * B) (spF B (f0 (fewV l) N))) (by rw [tbl_len]; omega) (by omega)
  unfold spF at *
  generalize tbl (16 * B) (blkF fG (joinF (hV turnV) B (f0 (fewV l) N))) = X3 at *
  generalize tbl (16 * B) (joinF (hV turnV) B (f0 (fewV l) N)) = X2 at *
  generalize tbl (16 * B) (f0 (fewV l) N) = X0 at *
  generalize fewV l = L at *
  simp -implicitDefEqProofs only [g5, g5_2, asI_i, asN_n, asL_l, asB_b, asE_nil, Bool.cond_decide, e1, altK_1, fewG_z, altK_2, e3, altK_0, e4, altK_2, altK_5, altK_7v, e5, e6, lap_new', e8, altK_3, e9, cond_true, awakeL_ok]
theorem sp_0g (m : Nat) (l G : List Int) (hG : G.length = 4 * m) (h1 : 1 ≤ m) (hm : m < 9223372036854775808) : g5 (0, [.n 0, .n m, .l l, .l G]) = some (0, [.b true, .l l, .l G]) := by
  have e2 := fewG_ok m G hG h1 hm
  generalize min 20 m = q at *
  generalize gL G q = H at *
  simp -implicitDefEqProofs only [g5, g5_0, asI_i, asN_n, asL_l, asB_b, asE_nil, Bool.cond_decide, few_0, altK_0, e2, altK_3]
  show (_ : Option (Nat × List Leaf)) = _
  kernel_rfl
theorem sp_00 (l G : List Int) : g5 (0, [.n 0, .n 0, .l l, .l G]) = some (0, [.b true, .l l, .l G]) := by
  simp -implicitDefEqProofs only [g5, g5_0, asI_i, asN_n, asL_l, asB_b, asE_nil, Bool.cond_decide, few_0, altK_0, fewG_0]
  kernel_rfl
theorem sp_0n (l : List Int) : g5 (1, [.n 0, .l l]) = some (1, [.b true, .l l]) := by
  simp -implicitDefEqProofs only [g5, g5_1, asI_i, asN_n, asL_l, asB_b, asE_nil, Bool.cond_decide, few_0, altK_0]
  kernel_rfl
theorem sp_0d (l : List Int) : g5 (2, [.n 0, .n 0, .l l]) = some (2, [.b true, .l l]) := by
  simp -implicitDefEqProofs only [g5, g5_2, asI_i, asN_n, asL_l, asB_b, asE_nil, Bool.cond_decide, few_0, altK_0]
  kernel_rfl
theorem sp_ng (m : Nat) (G : List Int) (hG : G.length = 4 * m) (h1 : 1 ≤ m) (hm : m < 9223372036854775808) : g5 (3, [.n m, .l G]) = some (1, [.b true, .l G]) := by
  have e2 := fewG_ok m G hG h1 hm
  generalize min 20 m = q at *
  generalize gL G q = H at *
  simp -implicitDefEqProofs only [g5, g5_3, asI_i, asN_n, asL_l, asB_b, asE_nil, Bool.cond_decide, few_nil, altK_2, e2, altK_3]
  show (_ : Option (Nat × List Leaf)) = _
  kernel_rfl
theorem sp_n0 (G : List Int) : g5 (3, [.n 0, .l G]) = some (1, [.b true, .l G]) := by
  simp -implicitDefEqProofs only [g5, g5_3, asI_i, asN_n, asL_l, asB_b, asE_nil, Bool.cond_decide, few_nil, altK_2, fewG_0, altK_0]
  kernel_rfl
theorem sp_dg (m : Nat) (G : List Int) (hG : G.length = 4 * m) (h1 : 1 ≤ m) (hm : m < 9223372036854775808) : g5 (6, [.n m, .l G]) = some (5, [.b true, .l G]) := by
  have e2 := fewG_ok m G hG h1 hm
  generalize min 20 m = q at *
  generalize gL G q = H at *
  simp -implicitDefEqProofs only [g5, g5_6, asI_i, asN_n, asL_l, asB_b, asE_nil, Bool.cond_decide, few_z, altK_3, e2, altK_3]
  show (_ : Option (Nat × List Leaf)) = _
  kernel_rfl
theorem sp_d0 (G : List Int) : g5 (6, [.n 0, .l G]) = some (5, [.b true, .l G]) := by
  simp -implicitDefEqProofs only [g5, g5_6, asI_i, asN_n, asL_l, asB_b, asE_nil, Bool.cond_decide, few_z, altK_3, fewG_0, altK_0]
  kernel_rfl
theorem sp_nn  : g5 (4, []) = some (3, [.b true]) := by
  kernel_rfl
theorem sp_nd  : g5 (5, [.n 0]) = some (4, [.b true]) := by
  kernel_rfl
theorem sp_dn  : g5 (7, []) = some (4, [.b true]) := by
  kernel_rfl
theorem sp_dd  : g5 (8, [.n 0]) = some (6, [.b true]) := by
  kernel_rfl
theorem sp_ev_ll (l : List Int) (n : Nat) (hn : l.length = n * 1) (hm : n ≤ maxLen) (g : List Int) (m : Nat) (hg : g.length = m * 4) (hm' : m ≤ maxLen) : ∃ d, evF tab d 5 [.slice 0 0 n 1, .slice 1 0 m 4] [⟨false, .ints .i64 l⟩, ⟨false, .ints .i64 g⟩] = some (.bool true, [⟨false, .ints .i64 l⟩, ⟨false, .ints .i64 g⟩], []) := by
  have h : g5 (0, [.n n, .n m, .l l, .l g]) = some (0, [.b true, .l l, .l g]) := by
    unfold maxLen at *
    by_cases c : n = 0
    · subst c
      by_cases c' : m = 0
      · subst c'
        exact sp_00 l g
      · exact sp_0g m l g (by omega) (by omega) (by omega)
    · by_cases c' : m = 0
      · subst c'
        exact sp_l0 n l g (by omega) (by omega) (by omega)
      · exact sp_lg n m l g (by omega) (by omega) (by omega) (by omega) (by omega) (by omega)
  exact ⟨_, (ok5 0).ret (i := 0) (ls := [.n n, .n m, .l l, .l g]) (j := 0) (r := [.b true, .l l, .l g]) h rfl rfl rfl rfl⟩
theorem sp_ev_ln (l : List Int) (n : Nat) (hn : l.length = n * 1) (hm : n ≤ maxLen) : ∃ d, evF tab d 5 [.slice 0 0 n 1, .nils] [⟨false, .ints .i64 l⟩] = some (.bool true, [⟨false, .ints .i64 l⟩], []) := by
  have h : g5 (1, [.n n, .l l]) = some (1, [.b true, .l l]) := by
    unfold maxLen at *
    by_cases c : n = 0
    · subst c
      exact sp_0n l
    · exact sp_ln n l (by omega) (by omega) (by omega)
  exact ⟨_, (ok5 0).ret (i := 1) (ls := [.n n, .l l]) (j := 1) (r := [.b true, .l l]) h rfl rfl rfl rfl⟩
theorem sp_ev_ld (l : List Int) (n : Nat) (hn : l.length = n * 1) (hm : n ≤ maxLen) : ∃ d, evF tab d 5 [.slice 0 0 n 1, .slice 1 0 0 4] [⟨false, .ints .i64 l⟩, ⟨true, .unk⟩] = some (.bool true, [⟨false, .ints .i64 l⟩, ⟨true, .unk⟩], []) := by
  have h : g5 (2, [.n n, .n 0, .l l]) = some (2, [.b true, .l l]) := by
    unfold maxLen at *
    by_cases c : n = 0
    · subst c
      exact sp_0d l
    · exact sp_ld n l (by omega) (by omega) (by omega)
  exact ⟨_, (ok5 0).ret (i := 2) (ls := [.n n, .n 0, .l l]) (j := 2) (r := [.b true, .l l]) h rfl rfl rfl rfl⟩
theorem sp_ev_nl (g : List Int) (m : Nat) (hg : g.length = m * 4) (hm' : m ≤ maxLen) : ∃ d, evF tab d 5 [.nils, .slice 0 0 m 4] [⟨false, .ints .i64 g⟩] = some (.bool true, [⟨false, .ints .i64 g⟩], []) := by
  have h : g5 (3, [.n m, .l g]) = some (1, [.b true, .l g]) := by
    unfold maxLen at *
    by_cases c : m = 0
    · subst c
      exact sp_n0 g
    · exact sp_ng m g (by omega) (by omega) (by omega)
  exact ⟨_, (ok5 0).ret (i := 3) (ls := [.n m, .l g]) (j := 1) (r := [.b true, .l g]) h rfl rfl rfl rfl⟩
theorem sp_ev_nn  : ∃ d, evF tab d 5 [.nils, .nils] [] = some (.bool true, [], []) := by
  have h : g5 (4, []) = some (3, [.b true]) := by
    exact sp_nn
  exact ⟨_, (ok5 0).ret (i := 4) (ls := []) (j := 3) (r := [.b true]) h rfl rfl rfl rfl⟩
theorem sp_ev_nd  : ∃ d, evF tab d 5 [.nils, .slice 0 0 0 4] [⟨true, .unk⟩] = some (.bool true, [⟨true, .unk⟩], []) := by
  have h : g5 (5, [.n 0]) = some (4, [.b true]) := by
    exact sp_nd
  exact ⟨_, (ok5 0).ret (i := 5) (ls := [.n 0]) (j := 4) (r := [.b true]) h rfl rfl rfl rfl⟩
theorem sp_ev_dl (g : List Int) (m : Nat) (hg : g.length = m * 4) (hm' : m ≤ maxLen) : ∃ d, evF tab d 5 [.slice 0 0 0 1, .slice 1 0 m 4] [⟨true, .unk⟩, ⟨false, .ints .i64 g⟩] = some (.bool true, [⟨true, .unk⟩, ⟨false, .ints .i64 g⟩], []) := by
  have h : g5 (6, [.n m, .l g]) = some (5, [.b true, .l g]) := by
    unfold maxLen at *
    by_cases c : m = 0
    · subst c
      exact sp_d0 g
    · exact sp_dg m g (by omega) (by omega) (by omega)
  exact ⟨_, (ok5 0).ret (i := 6) (ls := [.n m, .l g]) (j := 5) (r := [.b true, .l g]) h rfl rfl rfl rfl⟩
theorem sp_ev_dn  : ∃ d, evF tab d 5 [.slice 0 0 0 1, .nils] [⟨true, .unk⟩] = some (.bool true, [⟨true, .unk⟩], []) := by
  have h : g5 (7, []) = some (4, [.b true]) := by
    exact sp_dn
  exact ⟨_, (ok5 0).ret (i := 7) (ls := []) (j := 4) (r := [.b true]) h rfl rfl rfl rfl⟩
theorem sp_ev_dd  : ∃ d, evF tab d 5 [.slice 0 0 0 1, .slice 1 0 0 4] [⟨true, .unk⟩, ⟨true, .unk⟩] = some (.bool true, [⟨true, .unk⟩, ⟨true, .unk⟩], []) := by
  have h : g5 (8, [.n 0]) = some (6, [.b true]) := by
    exact sp_dd
  exact ⟨_, (ok5 0).ret (i := 8) (ls := [.n 0]) (j := 6) (r := [.b true]) h rfl rfl rfl rfl⟩
end Go.Proofs.Ytmmfgbifbbiihaa