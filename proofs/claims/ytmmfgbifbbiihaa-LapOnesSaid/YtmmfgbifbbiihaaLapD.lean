/-
  Spectra of samples, and samples of spectra. Conditions: none.
-/
import Derived.Test.YtmmfgbifbbiihaaLapC
namespace Go.Proofs.Ytmmfgbifbbiihaa
open Go Go.Sx S
set_option maxRecDepth 100000
set_option linter.unusedVariables false
attribute [local simp] asI_i asB_b asL_l asN_n asS_s asE_nil altK_none altK_0 altK_1 altK_2 altK_3 optK_some optK_none Bool.cond_decide Bool.cond_not Int.toNat_natCast
set_option linter.unusedSimpArgs false
def uG (m : Nat) (G : List Int) (k : Nat) (x : List Int) : List Int := if k < m then upB x (gn G k) else x
def dG (m : Nat) (G : List Int) (k : Nat) (x : List Int) : List Int := if k < m then dnB x (gn G k) else x
def fG (k : Nat) (x : List Int) : List Int := roundsV turnV TS rsF x
def iG (k : Nat) (x : List Int) : List Int := roundsV backV TS rsI x
theorem uG_len {m : Nat} {G : List Int} {k : Nat} {x : List Int} (h : x.length = 16) : (uG m G k x).length = 16 := by
  unfold uG
  split
  · exact upB_len _ _
  · exact h
theorem dG_len {m : Nat} {G : List Int} {k : Nat} {x : List Int} (h : x.length = 16) : (dG m G k x).length = 16 := by
  unfold dG
  split
  · exact dnB_len _ _
  · exact h
theorem fG_len {k : Nat} {x : List Int} (h : x.length = 16) : (fG k x).length = 16 := (roundsV_len _ _ _ x).trans h
theorem iG_len {k : Nat} {x : List Int} (h : x.length = 16) : (iG k x).length = 16 := (roundsV_len _ _ _ x).trans h
def f0 (L : List Int) (N j : Nat) : Int := if j < N then L.getD j 0 else 0
theorem pad_tbl (L : List Int) (N B : Nat) (hN : L.length = N) (hB : N ≤ B) : padV L B N = tbl B (f0 L N) := by
  unfold padV
  rw [tbl_rep, show List.take N L = tbl N (fun j => L.getD j 0) from (List.take_of_length_le (by omega)).trans (tbl_of L N hN), tbl_append]
  exact tbl_congr (by omega) fun j hj => rfl
theorem blk_len {N k : Nat} (X : List Int) (hX : X.length = N) (h : (k + 1) * 16 ≤ N) : (List.take 16 (List.drop (k * 16) X)).length = 16 := by
  rw [List.length_take, List.length_drop]
  omega
theorem sp_up (B : Nat) (F : Nat → Int) (m : Nat) (L G : List Int) (hG : G.length = m * 4) (hB : B ≤ 20) : L20_0 (0, [.n m, .n B, .i (B : Int), .i 0, .l L, .l G, .l TT, .l (tbl (16 * B) (blkTo (uG m G) F 0))]) = some (0, [.n B, .l L, .l G, .l TT, .l (tbl (16 * B) (blkTo (uG m G) F B))]) := by
  refine loopL_run (m := 4) (f := f20_0) (fun k => (0, [.n m, .n B, .i (B : Int), .i (k : Int), .l L, .l G, .l TT, .l (tbl (16 * B) (blkTo (uG m G) F k))])) B (fun k hk => ⟨?_, by show 0 < 4; omega⟩) ?_ (by omega)
  · show f20_0 (0, [.n m, .n B, .i (B : Int), .i (k : Int), .l L, .l G, .l TT, .l (tbl (16 * B) (blkTo (uG m G) F k))]) = some (0, [.n m, .n B, .i (B : Int), .i ((k + 1 : Nat) : Int), .l L, .l G, .l TT, .l (tbl (16 * B) (blkTo (uG m G) F (k + 1)))])
    have w2 : IntKind.i64.wrap ((k : Int) + 1) = ((k + 1 : Nat) : Int) := wrap_nat (n := k + 1) (by omega)
    have hlen : (tbl (16 * B) (blkTo (uG m G) F k)).length = 16 * B := tbl_len _ _
    have hread := blkTo_read (N := 16 * B) (k := k) (uG m G) F (by omega)
    have h16 : (tbl 16 (fun c => F (16 * k + c))).length = 16 := tbl_len _ _
    by_cases hkm : k < m
    · have hgn := gn_len (G := G) (k := k) (by omega)
      have hG0 : (uG m G) k (tbl 16 (fun c => F (16 * k + c))) = upB (tbl 16 (fun c => F (16 * k + c))) (gn G k) := if_pos hkm
      have hc := up_ok (tbl 16 (fun c => F (16 * k + c))) (gn G k) h16 hgn
      rw [← hG0] at hc
      have hgg : List.take 4 (List.drop (k * 4) G) = gn G k := rfl
      have hgl : ((uG m G) k (tbl 16 (fun c => F (16 * k + c)))).length = 16 := uG_len h16
      have hput := blkTo_put (N := 16 * B) (k := k) (G := uG m G) (f := F) hgl (by omega)
      rw [hgl] at hput
      rw [← hput]
      clear hG0
      generalize tbl (16 * B) (blkTo (uG m G) F k) = X at *
      generalize tbl 16 (fun c => F (16 * k + c)) = x at *
      generalize hR : (uG m G) k x = R at *
      simp -implicitDefEqProofs only [f20_0, f20_0_0, asI_i, asN_n, asL_l, asB_b, asE_nil, Bool.cond_decide, if_pos (show (k : Int) < B by omega), if_pos (show (0 : Int) ≤ k ∧ (k : Int) < B by omega), Int.toNat_natCast, hlen, if_pos (show k * 16 + 16 ≤ 16 * B by omega), hread, altK_0, if_true, w2, hgg, if_pos (show (k : Int) < m by omega), if_pos (show (0 : Int) ≤ k ∧ (k : Int) < m by omega), if_pos (show k * 4 + 4 ≤ G.length by omega), hc, hgl]
    · have hsk := blkTo_skip (N := 16 * B) (k := k) (G := uG m G) (f := F) (if_neg hkm)
      rw [← hsk]
      generalize tbl (16 * B) (blkTo (uG m G) F k) = X at *
      simp -implicitDefEqProofs only [f20_0, f20_0_0, asI_i, asN_n, asL_l, asB_b, asE_nil, Bool.cond_decide, if_pos (show (k : Int) < B by omega), if_neg (show ¬ (k : Int) < m by omega), w2]
  · show f20_0 (0, [.n m, .n B, .i (B : Int), .i (B : Int), .l L, .l G, .l TT, .l (tbl (16 * B) (blkTo (uG m G) F B))]) = _
    generalize tbl (16 * B) (blkTo (uG m G) F B) = z
    simp -implicitDefEqProofs only [f20_0, f20_0_0, asI_i, asN_n, asL_l, asB_b, asE_nil, Bool.cond_decide, if_neg (Int.lt_irrefl _)]
theorem sp_no (B : Nat) (X : List Int) (L : List Int) (hB : B ≤ 20) : L20_0 (2, [.n B, .i (B : Int), .i 0, .l L, .l TT, .l X]) = some (1, [.n B, .l L, .l TT, .l (X)]) := by
  refine loopL_run (m := 4) (f := f20_0) (fun k => (2, [.n B, .i (B : Int), .i (k : Int), .l L, .l TT, .l X])) B (fun k hk => ⟨?_, by show 2 < 4; omega⟩) ?_ (by omega)
  · have w2 : IntKind.i64.wrap ((k : Int) + 1) = ((k + 1 : Nat) : Int) := wrap_nat (n := k + 1) (by omega)
    simp -implicitDefEqProofs only [f20_0, f20_0_2, asI_i, asN_n, asL_l, asB_b, asE_nil, Bool.cond_decide, if_pos (show (k : Int) < B by omega), if_neg (show ¬ (k : Int) < 0 by omega), w2]
  · simp -implicitDefEqProofs only [f20_0, f20_0_2, asI_i, asN_n, asL_l, asB_b, asE_nil, Bool.cond_decide, if_neg (Int.lt_irrefl _)]
theorem sp_f1 (B : Nat) (F : Nat → Int) (L G Y : List Int) (hB : B ≤ 20) : L20_1 (1, [.n B, .i (B : Int), .i 0, .l L, .l G, .l TT, .l Y, .l (tbl (16 * B) (blkTo (fG) F 0))]) = some (1, [.n B, .l L, .l G, .l TT, .l Y, .l (tbl (16 * B) (blkTo (fG) F B))]) := by
  refine loopL_run (m := 6) (f := f20_1) (fun k => (1, [.n B, .i (B : Int), .i (k : Int), .l L, .l G, .l TT, .l Y, .l (tbl (16 * B) (blkTo (fG) F k))])) B (fun k hk => ⟨?_, by show 1 < 6; omega⟩) ?_ (by omega)
  · show f20_1 (1, [.n B, .i (B : Int), .i (k : Int), .l L, .l G, .l TT, .l Y, .l (tbl (16 * B) (blkTo (fG) F k))]) = some (1, [.n B, .i (B : Int), .i ((k + 1 : Nat) : Int), .l L, .l G, .l TT, .l Y, .l (tbl (16 * B) (blkTo (fG) F (k + 1)))])
    have w2 : IntKind.i64.wrap ((k : Int) + 1) = ((k + 1 : Nat) : Int) := wrap_nat (n := k + 1) (by omega)
    have hlen : (tbl (16 * B) (blkTo (fG) F k)).length = 16 * B := tbl_len _ _
    have hread := blkTo_read (N := 16 * B) (k := k) (fG) F (by omega)
    have h16 : (tbl 16 (fun c => F (16 * k + c))).length = 16 := tbl_len _ _
    have hgl : ((fG) k (tbl 16 (fun c => F (16 * k + c)))).length = 16 := fG_len h16
    have hput := blkTo_put (N := 16 * B) (k := k) (G := fG) (f := F) hgl (by omega)
    rw [hgl] at hput
    rw [← hput]
    have hc := g17_ok TS (tbl 16 (fun c => F (16 * k + c))) rfl h16
    rw [show roundsV turnV TS rsF (tbl 16 (fun c => F (16 * k + c))) = fG k (tbl 16 (fun c => F (16 * k + c))) from rfl] at hc
    generalize tbl (16 * B) (blkTo (fG) F k) = X at *
    generalize tbl 16 (fun c => F (16 * k + c)) = x at *
    generalize hR : (fG) k x = R at *
    simp -implicitDefEqProofs only [f20_1, f20_1_1, asI_i, asN_n, asL_l, asB_b, asE_nil, Bool.cond_decide, if_pos (show (k : Int) < B by omega), if_pos (show (0 : Int) ≤ k ∧ (k : Int) < B by omega), Int.toNat_natCast, hlen, if_pos (show k * 16 + 16 ≤ 16 * B by omega), hread, altK_0, if_true, w2, TT_len, if_pos (show 32 ≤ 32 by omega), TT_hi, hc, hgl]
  · show f20_1 (1, [.n B, .i (B : Int), .i (B : Int), .l L, .l G, .l TT, .l Y, .l (tbl (16 * B) (blkTo (fG) F B))]) = _
    generalize tbl (16 * B) (blkTo (fG) F B) = z
    simp -implicitDefEqProofs only [f20_1, f20_1_1, asI_i, asN_n, asL_l, asB_b, asE_nil, Bool.cond_decide, if_neg (Int.lt_irrefl _)]
theorem sp_f3 (B : Nat) (F : Nat → Int) (L Y : List Int) (hB : B ≤ 20) : L20_1 (3, [.n B, .i (B : Int), .i 0, .l L, .l TT, .l Y, .l (tbl (16 * B) (blkTo (fG) F 0))]) = some (3, [.n B, .l L, .l TT, .l Y, .l (tbl (16 * B) (blkTo (fG) F B))]) := by
  refine loopL_run (m := 6) (f := f20_1) (fun k => (3, [.n B, .i (B : Int), .i (k : Int), .l L, .l TT, .l Y, .l (tbl (16 * B) (blkTo (fG) F k))])) B (fun k hk => ⟨?_, by show 3 < 6; omega⟩) ?_ (by omega)
  · show f20_1 (3, [.n B, .i (B : Int), .i (k : Int), .l L, .l TT, .l Y, .l (tbl (16 * B) (blkTo (fG) F k))]) = some (3, [.n B, .i (B : Int), .i ((k + 1 : Nat) : Int), .l L, .l TT, .l Y, .l (tbl (16 * B) (blkTo (fG) F (k + 1)))])
    have w2 : IntKind.i64.wrap ((k : Int) + 1) = ((k + 1 : Nat) : Int) := wrap_nat (n := k + 1) (by omega)
    have hlen : (tbl (16 * B) (blkTo (fG) F k)).length = 16 * B := tbl_len _ _
    have hread := blkTo_read (N := 16 * B) (k := k) (fG) F (by omega)
    have h16 : (tbl 16 (fun c => F (16 * k + c))).length = 16 := tbl_len _ _
    have hgl : ((fG) k (tbl 16 (fun c => F (16 * k + c)))).length = 16 := fG_len h16
    have hput := blkTo_put (N := 16 * B) (k := k) (G := fG) (f := F) hgl (by omega)
    rw [hgl] at hput
    rw [← hput]
    have hc := g17_ok TS (tbl 16 (fun c => F (16 * k + c))) rfl h16
    rw [show roundsV turnV TS rsF (tbl 16 (fun c => F (16 * k + c))) = fG k (tbl 16 (fun c => F (16 * k + c))) from rfl] at hc
    generalize tbl (16 * B) (blkTo (fG) F k) = X at *
    generalize tbl 16 (fun c => F (16 * k + c)) = x at *
    generalize hR : (fG) k x = R at *
    simp -implicitDefEqProofs only [f20_1, f20_1_3, asI_i, asN_n, asL_l, asB_b, asE_nil, Bool.cond_decide, if_pos (show (k : Int) < B by omega), if_pos (show (0 : Int) ≤ k ∧ (k : Int) < B by omega), Int.toNat_natCast, hlen, if_pos (show k * 16 + 16 ≤ 16 * B by omega), hread, altK_0, if_true, w2, TT_len, if_pos (show 32 ≤ 32 by omega), TT_hi, hc, hgl]
  · show f20_1 (3, [.n B, .i (B : Int), .i (B : Int), .l L, .l TT, .l Y, .l (tbl (16 * B) (blkTo (fG) F B))]) = _
    generalize tbl (16 * B) (blkTo (fG) F B) = z
    simp -implicitDefEqProofs only [f20_1, f20_1_3, asI_i, asN_n, asL_l, asB_b, asE_nil, Bool.cond_decide, if_neg (Int.lt_irrefl _)]
theorem wh_i0 (B : Nat) (F : Nat → Int) (m : Nat) (a : Int) (G : List Int) (hB : B ≤ 20) : L22_0 (0, [.n B, .n m, .i a, .n B, .i (B : Int), .i 0, .l (tbl (16 * B) F), .l G, .l TT, .l (tbl (16 * B) (newTo (iG) F 0))]) = some (0, [.n m, .i a, .n B, .l (tbl (16 * B) F), .l G, .l TT, .l (tbl (16 * B) (newTo (iG) F B))]) := by
  refine loopL_run (m := 4) (f := f22_0) (fun k => (0, [.n B, .n m, .i a, .n B, .i (B : Int), .i (k : Int), .l (tbl (16 * B) F), .l G, .l TT, .l (tbl (16 * B) (newTo (iG) F k))])) B (fun k hk => ⟨?_, by show 0 < 4; omega⟩) ?_ (by omega)
  · show f22_0 (0, [.n B, .n m, .i a, .n B, .i (B : Int), .i (k : Int), .l (tbl (16 * B) F), .l G, .l TT, .l (tbl (16 * B) (newTo (iG) F k))]) = some (0, [.n B, .n m, .i a, .n B, .i (B : Int), .i ((k + 1 : Nat) : Int), .l (tbl (16 * B) F), .l G, .l TT, .l (tbl (16 * B) (newTo (iG) F (k + 1)))])
    have w2 : IntKind.i64.wrap ((k : Int) + 1) = ((k + 1 : Nat) : Int) := wrap_nat (n := k + 1) (by omega)
    have hlen : (tbl (16 * B) (newTo (iG) F k)).length = 16 * B := tbl_len _ _
    have hread : List.take 16 (List.drop (k * 16) (tbl (16 * B) F)) = tbl 16 (fun c => F (16 * k + c)) := blk_get F (by omega)
    have hpl : (tbl (16 * B) F).length = 16 * B := tbl_len _ _
    have h16 : (tbl 16 (fun c => F (16 * k + c))).length = 16 := tbl_len _ _
    have hgl : ((iG) k (tbl 16 (fun c => F (16 * k + c)))).length = 16 := iG_len h16
    have hput := newTo_put (N := 16 * B) (k := k) (G := iG) (f := F) hgl (by omega)
    rw [hgl] at hput
    rw [← hput]
    have hc := g25_ok TS (tbl 16 (fun c => F (16 * k + c))) rfl h16
    rw [show roundsV backV TS rsI (tbl 16 (fun c => F (16 * k + c))) = iG k (tbl 16 (fun c => F (16 * k + c))) from rfl] at hc
    generalize tbl (16 * B) (newTo (iG) F k) = X at *
    generalize tbl 16 (fun c => F (16 * k + c)) = x at *
    generalize tbl (16 * B) F = P at *
    generalize hR : (iG) k x = R at *
    simp -implicitDefEqProofs only [f22_0, f22_0_0, asI_i, asN_n, asL_l, asB_b, asE_nil, Bool.cond_decide, if_pos (show (k : Int) < B by omega), if_pos (show (0 : Int) ≤ k ∧ (k : Int) < B by omega), Int.toNat_natCast, hlen, if_pos (show k * 16 + 16 ≤ 16 * B by omega), hread, altK_0, if_true, w2, hpl, TT_len, if_pos (show 32 ≤ 32 by omega), TT_hi, hc, hgl]
  · show f22_0 (0, [.n B, .n m, .i a, .n B, .i (B : Int), .i (B : Int), .l (tbl (16 * B) F), .l G, .l TT, .l (tbl (16 * B) (newTo (iG) F B))]) = _
    generalize tbl (16 * B) (newTo (iG) F B) = z
    simp -implicitDefEqProofs only [f22_0, f22_0_0, asI_i, asN_n, asL_l, asB_b, asE_nil, Bool.cond_decide, if_neg (Int.lt_irrefl _)]
theorem wh_i2 (B : Nat) (F : Nat → Int) (a : Int) (hB : B ≤ 20) : L22_0 (2, [.n B, .i a, .n B, .i (B : Int), .i 0, .l (tbl (16 * B) F), .l TT, .l (tbl (16 * B) (newTo (iG) F 0))]) = some (2, [.i a, .n B, .l (tbl (16 * B) F), .l TT, .l (tbl (16 * B) (newTo (iG) F B))]) := by
  refine loopL_run (m := 4) (f := f22_0) (fun k => (2, [.n B, .i a, .n B, .i (B : Int), .i (k : Int), .l (tbl (16 * B) F), .l TT, .l (tbl (16 * B) (newTo (iG) F k))])) B (fun k hk => ⟨?_, by show 2 < 4; omega⟩) ?_ (by omega)
  · show f22_0 (2, [.n B, .i a, .n B, .i (B : Int), .i (k : Int), .l (tbl (16 * B) F), .l TT, .l (tbl (16 * B) (newTo (iG) F k))]) = some (2, [.n B, .i a, .n B, .i (B : Int), .i ((k + 1 : Nat) : Int), .l (tbl (16 * B) F), .l TT, .l (tbl (16 * B) (newTo (iG) F (k + 1)))])
    have w2 : IntKind.i64.wrap ((k : Int) + 1) = ((k + 1 : Nat) : Int) := wrap_nat (n := k + 1) (by omega)
    have hlen : (tbl (16 * B) (newTo (iG) F k)).length = 16 * B := tbl_len _ _
    have hread : List.take 16 (List.drop (k * 16) (tbl (16 * B) F)) = tbl 16 (fun c => F (16 * k + c)) := blk_get F (by omega)
    have hpl : (tbl (16 * B) F).length = 16 * B := tbl_len _ _
    have h16 : (tbl 16 (fun c => F (16 * k + c))).length = 16 := tbl_len _ _
    have hgl : ((iG) k (tbl 16 (fun c => F (16 * k + c)))).length = 16 := iG_len h16
    have hput := newTo_put (N := 16 * B) (k := k) (G := iG) (f := F) hgl (by omega)
    rw [hgl] at hput
    rw [← hput]
    have hc := g25_ok TS (tbl 16 (fun c => F (16 * k + c))) rfl h16
    rw [show roundsV backV TS rsI (tbl 16 (fun c => F (16 * k + c))) = iG k (tbl 16 (fun c => F (16 * k + c))) from rfl] at hc
    generalize tbl (16 * B) (newTo (iG) F k) = X at *
    generalize tbl 16 (fun c => F (16 * k + c)) = x at *
    generalize tbl (16 * B) F = P at *
    generalize hR : (iG) k x = R at *
    simp -implicitDefEqProofs only [f22_0, f22_0_2, asI_i, asN_n, asL_l, asB_b, asE_nil, Bool.cond_decide, if_pos (show (k : Int) < B by omega), if_pos (show (0 : Int) ≤ k ∧ (k : Int) < B by omega), Int.toNat_natCast, hlen, if_pos (show k * 16 + 16 ≤ 16 * B by omega), hread, altK_0, if_true, w2, hpl, TT_len, if_pos (show 32 ≤ 32 by omega), TT_hi, hc, hgl]
  · show f22_0 (2, [.n B, .i a, .n B, .i (B : Int), .i (B : Int), .l (tbl (16 * B) F), .l TT, .l (tbl (16 * B) (newTo (iG) F B))]) = _
    generalize tbl (16 * B) (newTo (iG) F B) = z
    simp -implicitDefEqProofs only [f22_0, f22_0_2, asI_i, asN_n, asL_l, asB_b, asE_nil, Bool.cond_decide, if_neg (Int.lt_irrefl _)]
theorem wh_d1 (B : Nat) (F : Nat → Int) (m : Nat) (a : Int) (L G Y : List Int) (hG : G.length = m * 4) (hB : B ≤ 20) : L22_1 (1, [.n m, .i a, .n B, .i (B : Int), .i 0, .l L, .l G, .l TT, .l Y, .l (tbl (16 * B) (blkTo (dG m G) F 0))]) = some (1, [.i a, .n B, .l L, .l G, .l TT, .l Y, .l (tbl (16 * B) (blkTo (dG m G) F B))]) := by
  refine loopL_run (m := 8) (f := f22_1) (fun k => (1, [.n m, .i a, .n B, .i (B : Int), .i (k : Int), .l L, .l G, .l TT, .l Y, .l (tbl (16 * B) (blkTo (dG m G) F k))])) B (fun k hk => ⟨?_, by show 1 < 8; omega⟩) ?_ (by omega)
  · show f22_1 (1, [.n m, .i a, .n B, .i (B : Int), .i (k : Int), .l L, .l G, .l TT, .l Y, .l (tbl (16 * B) (blkTo (dG m G) F k))]) = some (1, [.n m, .i a, .n B, .i (B : Int), .i ((k + 1 : Nat) : Int), .l L, .l G, .l TT, .l Y, .l (tbl (16 * B) (blkTo (dG m G) F (k + 1)))])
    have w2 : IntKind.i64.wrap ((k : Int) + 1) = ((k + 1 : Nat) : Int) := wrap_nat (n := k + 1) (by omega)
    have hlen : (tbl (16 * B) (blkTo (dG m G) F k)).length = 16 * B := tbl_len _ _
    have hread := blkTo_read (N := 16 * B) (k := k) (dG m G) F (by omega)
    have h16 : (tbl 16 (fun c => F (16 * k + c))).length = 16 := tbl_len _ _
    by_cases hkm : k < m
    · have hgn := gn_len (G := G) (k := k) (by omega)
      have hG0 : (dG m G) k (tbl 16 (fun c => F (16 * k + c))) = dnB (tbl 16 (fun c => F (16 * k + c))) (gn G k) := if_pos hkm
      have hc := dn_ok (tbl 16 (fun c => F (16 * k + c))) (gn G k) h16 hgn
      rw [← hG0] at hc
      have hgg : List.take 4 (List.drop (k * 4) G) = gn G k := rfl
      have hgl : ((dG m G) k (tbl 16 (fun c => F (16 * k + c)))).length = 16 := dG_len h16
      have hput := blkTo_put (N := 16 * B) (k := k) (G := dG m G) (f := F) hgl (by omega)
      rw [hgl] at hput
      rw [← hput]
      clear hG0
      generalize tbl (16 * B) (blkTo (dG m G) F k) = X at *
      generalize tbl 16 (fun c => F (16 * k + c)) = x at *
      generalize hR : (dG m G) k x = R at *
      simp -implicitDefEqProofs only [f22_1, f22_1_1, asI_i, asN_n, asL_l, asB_b, asE_nil, Bool.cond_decide, if_pos (show (k : Int) < B by omega), if_pos (show (0 : Int) ≤ k ∧ (k : Int) < B by omega), Int.toNat_natCast, hlen, if_pos (show k * 16 + 16 ≤ 16 * B by omega), hread, altK_0, if_true, w2, hgg, if_pos (show (k : Int) < m by omega), if_pos (show (0 : Int) ≤ k ∧ (k : Int) < m by omega), if_pos (show k * 4 + 4 ≤ G.length by omega), hc, hgl]
    · have hsk := blkTo_skip (N := 16 * B) (k := k) (G := dG m G) (f := F) (if_neg hkm)
      rw [← hsk]
      generalize tbl (16 * B) (blkTo (dG m G) F k) = X at *
      simp -implicitDefEqProofs only [f22_1, f22_1_1, asI_i, asN_n, asL_l, asB_b, asE_nil, Bool.cond_decide, if_pos (show (k : Int) < B by omega), if_neg (show ¬ (k : Int) < m by omega), w2]
  · show f22_1 (1, [.n m, .i a, .n B, .i (B : Int), .i (B : Int), .l L, .l G, .l TT, .l Y, .l (tbl (16 * B) (blkTo (dG m G) F B))]) = _
    generalize tbl (16 * B) (blkTo (dG m G) F B) = z
    simp -implicitDefEqProofs only [f22_1, f22_1_1, asI_i, asN_n, asL_l, asB_b, asE_nil, Bool.cond_decide, if_neg (Int.lt_irrefl _)]
theorem wh_no (B : Nat) (X : List Int) (a : Int) (L Y : List Int) (hB : B ≤ 20) : L22_1 (5, [.i a, .n B, .i (B : Int), .i 0, .l L, .l TT, .l Y, .l X]) = some (3, [.i a, .n B, .l L, .l TT, .l Y, .l (X)]) := by
  refine loopL_run (m := 8) (f := f22_1) (fun k => (5, [.i a, .n B, .i (B : Int), .i (k : Int), .l L, .l TT, .l Y, .l X])) B (fun k hk => ⟨?_, by show 5 < 8; omega⟩) ?_ (by omega)
  · have w2 : IntKind.i64.wrap ((k : Int) + 1) = ((k + 1 : Nat) : Int) := wrap_nat (n := k + 1) (by omega)
    simp -implicitDefEqProofs only [f22_1, f22_1_5, asI_i, asN_n, asL_l, asB_b, asE_nil, Bool.cond_decide, if_pos (show (k : Int) < B by omega), if_neg (show ¬ (k : Int) < 0 by omega), w2]
  · simp -implicitDefEqProofs only [f22_1, f22_1_5, asI_i, asN_n, asL_l, asB_b, asE_nil, Bool.cond_decide, if_neg (Int.lt_irrefl _)]
/-- What spectra come to, place by place. -/
def spF (B : Nat) (f : Nat → Int) : Nat → Int := blkF fG (joinF (hV turnV) B f)
def whF (B : Nat) (f : Nat → Int) : Nat → Int := joinF (hV backV) B (blkF iG f)
theorem spec_g (N B m : Nat) (L G : List Int) (hN : L.length = N) (h1 : 1 ≤ N) (hm : N ≤ 200) (hB : (N + 15) / 16 = B) (hG : G.length = m * 4) : g20 (0, [.l TT, .n N, .n m, .l L, .l G]) = some (1, [.n B, .l L, .l G, .l (tbl (16 * B) (spF B (blkF (uG m G) (f0 L N))))]) := by
  have e1 := blocks_ok L N hN h1 hm
  rw [hB, pad_tbl L N (16 * B) hN (by omega)] at e1
  have e2 := sp_up B (f0 L N) m L G hG (by omega)
  rw [blkTo_zero, blkTo_all] at e2
  have e3 := all_turn B (blkF (uG m G) (f0 L N)) (by omega) (by omega)
  have e4 := sp_f1 B (joinF (hV turnV) B (blkF (uG m G) (f0 L N))) L G (tbl (16 * B) (blkF (uG m G) (f0 L N))) (by omega)
  rw [blkTo_zero, blkTo_all] at e4
  unfold spF
  generalize tbl (16 * B) (blkF fG (joinF (hV turnV) B (blkF (uG m G) (f0 L N)))) = X3 at *
  generalize tbl (16 * B) (joinF (hV turnV) B (blkF (uG m G) (f0 L N))) = X2 at *
  generalize tbl (16 * B) (blkF (uG m G) (f0 L N)) = X1 at *
  generalize tbl (16 * B) (f0 L N) = X0 at *
  simp -implicitDefEqProofs only [g20, g20_0, asI_i, asN_n, asL_l, asB_b, asE_nil, Bool.cond_decide, e1, altK_0, e2, TT_len, Nat.le_refl, if_true, TT_32, e3, altK_1, e4]
theorem spec_n (N B : Nat) (L : List Int) (hN : L.length = N) (h1 : 1 ≤ N) (hm : N ≤ 200) (hB : (N + 15) / 16 = B) : g20 (2, [.l TT, .n N, .l L]) = some (3, [.n B, .l L, .l (tbl (16 * B) (spF B (f0 L N)))]) := by
  have e1 := blocks_ok L N hN h1 hm
  rw [hB, pad_tbl L N (16 * B) hN (by omega)] at e1
  have e2 := sp_no B (tbl (16 * B) (f0 L N)) L (by omega)
  have e3 := all_turn B (f0 L N) (by omega) (by omega)
  have e4 := sp_f3 B (joinF (hV turnV) B (f0 L N)) L (tbl (16 * B) (f0 L N)) (by omega)
  rw [blkTo_zero, blkTo_all] at e4
  unfold spF
  generalize tbl (16 * B) (blkF fG (joinF (hV turnV) B (f0 L N))) = X3 at *
  generalize tbl (16 * B) (joinF (hV turnV) B (f0 L N)) = X2 at *
  generalize tbl (16 * B) (f0 L N) = X0 at *
  simp -implicitDefEqProofs only [g20, g20_2, asI_i, asN_n, asL_l, asB_b, asE_nil, Bool.cond_decide, e1, altK_0, e2, altK_1, TT_len, Nat.le_refl, if_true, TT_32, e3, e4, altK_3]
theorem new_zero (B : Nat) (G : Nat → List Int → List Int) (F : Nat → Int) : List.replicate (16 * B) (0 : Int) = tbl (16 * B) (newTo G F 0) := (tbl_rep _).trans (tbl_congr rfl fun j _ => by unfold newTo; rw [if_neg (by omega)])
theorem whole_g (N B m : Nat) (F : Nat → Int) (G : List Int) (h1 : 1 ≤ B) (hB : B ≤ 13) (hN : N ≤ 16 * B) (hG : G.length = m * 4) : g22 (0, [.l TT, .n B, .n m, .i (N : Int), .l (tbl (16 * B) F), .l G]) = some (1, [.n N, .l (tbl (16 * B) F), .l G, .l (tbl (16 * B) (blkF (dG m G) (whF B F)))]) := by
  have e1 := wh_i0 B F m (N : Int) G (by omega)
  rw [← new_zero, newTo_all] at e1
  have e2 := all_back B (blkF iG F) (by omega) (by omega)
  have e3 := wh_d1 B (joinF (hV backV) B (blkF iG F)) m (N : Int) (tbl (16 * B) F) G (tbl (16 * B) (blkF iG F)) hG (by omega)
  rw [blkTo_zero, blkTo_all] at e3
  have e4 := samp_ok B N (tbl (16 * B) (blkF (dG m G) (whF B F))) h1 hB (tbl_len _ _) hN
  unfold whF at *
  generalize tbl (16 * B) (blkF (dG m G) (joinF (hV backV) B (blkF iG F))) = X3 at *
  generalize tbl (16 * B) (joinF (hV backV) B (blkF iG F)) = X2 at *
  generalize tbl (16 * B) (blkF iG F) = X1 at *
  generalize tbl (16 * B) F = X0 at *
  simp -implicitDefEqProofs only [g22, g22_0, asI_i, asN_n, asL_l, asB_b, asE_nil, Bool.cond_decide, if_true, if_pos (show (128 : Int) * (B : Int) ≤ 140737488355328 by omega), if_pos (show (B : Int) ≤ 9223372036854775807 by omega), Int.toNat_natCast, flat_rep, e1, altK_0, TT_len, Nat.le_refl, TT_32, e2, altK_1, e3, e4]
theorem whole_n (N B : Nat) (F : Nat → Int) (h1 : 1 ≤ B) (hB : B ≤ 13) (hN : N ≤ 16 * B) : g22 (2, [.l TT, .n B, .i (N : Int), .l (tbl (16 * B) F)]) = some (3, [.n N, .l (tbl (16 * B) F), .l (tbl (16 * B) (whF B F))]) := by
  have e1 := wh_i2 B F (N : Int) (by omega)
  rw [← new_zero, newTo_all] at e1
  have e2 := all_back B (blkF iG F) (by omega) (by omega)
  have e3 := wh_no B (tbl (16 * B) (joinF (hV backV) B (blkF iG F))) (N : Int) (tbl (16 * B) F) (tbl (16 * B) (blkF iG F)) (by omega)
  have e4 := samp_ok B N (tbl (16 * B) (whF B F)) h1 hB (tbl_len _ _) hN
  unfold whF at *
  generalize tbl (16 * B) (joinF (hV backV) B (blkF iG F)) = X2 at *
  generalize tbl (16 * B) (blkF iG F) = X1 at *
  generalize tbl (16 * B) F = X0 at *
  simp -implicitDefEqProofs only [g22, g22_2, asI_i, asN_n, asL_l, asB_b, asE_nil, Bool.cond_decide, if_true, if_pos (show (128 : Int) * (B : Int) ≤ 140737488355328 by omega), if_pos (show (B : Int) ≤ 9223372036854775807 by omega), Int.toNat_natCast, flat_rep, e1, altK_2, TT_len, Nat.le_refl, TT_32, e2, altK_1, e3, altK_3, e4]
end Go.Proofs.Ytmmfgbifbbiihaa
