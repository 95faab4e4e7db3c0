/-
  The law of a wave's samples. Conditions: none.
-/
import Derived.Test.YtgmlibigknnbmaaAts
import Derived.Test.YtgmlibigknnbmaaRands
namespace Go.Proofs.Ytgmlibigknnbmaa
open Go Go.Sx
set_option maxRecDepth 100000
set_option linter.unusedVariables false
attribute [local simp] asI_i asB_b asL_l asN_n asS_s asE_nil altK_none altK_0 altK_1 altK_2 altK_3 optK_some optK_none Bool.cond_decide Bool.cond_not Int.toNat_natCast
set_option linter.unusedSimpArgs false
theorem or_one (a : Nat) : a ||| 1 = if a % 2 = 0 then a + 1 else a := by
  have h1 : (a ||| 1) / 2 = a / 2 := by
    rw [Nat.or_div_two]
    show a / 2 ||| 0 = a / 2
    exact Nat.or_zero _
  have h2 : (a ||| 1) % 2 = 1 := Nat.or_mod_two_eq_one.2 (Or.inr rfl)
  split <;> omega
def seed1 (x : V) : V := x ||| 1#32
theorem seed_toNat (x : V) : (seed1 x).toNat = if x.toNat % 2 = 0 then x.toNat + 1 else x.toNat := by
  unfold seed1
  rw [BitVec.toNat_or]
  exact or_one _
theorem seed_or (x : V) : bOr .u32 (x.toNat : Int) 1 = ((seed1 x).toNat : Nat) := by
  show IntKind.u32.wrap ((BitVec.ofInt 32 (x.toNat : Int) ||| BitVec.ofInt 32 ((1 : Nat) : Int)).toNat : Nat) = _
  rw [ofInt_nat, ofInt_nat, wrapu, Nat.mod_eq_of_lt (BitVec.isLt _), ofNat_toNat]
  rfl
theorem seed_even {x : V} (h : x.toNat % 2 = 0) : IntKind.u32.wrap ((x.toNat : Int) + 1) = ((seed1 x).toNat : Nat) := by
  have := x.isLt
  rw [seed_toNat, if_pos h]
  have e : ((x.toNat : Int) + 1) = ((x.toNat + 1 : Nat) : Int) := by omega
  rw [e, wrapu, Nat.mod_eq_of_lt (by omega)]
theorem seed_odd {x : V} (h : ¬ x.toNat % 2 = 0) : x.toNat = (seed1 x).toNat := by rw [seed_toNat, if_neg h]
def xsV (x : V) : Nat → V
  | 0 => x
  | k + 1 => nx (xsV x k)
def noiseV (x : V) (l : Int) : Int := ((x.toNat / 65536 : Nat) : Int) * (2 * l + 1) / 65536 - l
theorem noise_in {l : Int} (hl : 0 ≤ l ∧ l ≤ 32767) (x : V) : (0 ≤ ((x.toNat / 65536 : Nat) : Int) * (2 * l + 1) ∧ ((x.toNat / 65536 : Nat) : Int) * (2 * l + 1) ≤ 4294836225) ∧ (0 ≤ ((x.toNat / 65536 : Nat) : Int) * (2 * l + 1) / 65536 ∧ ((x.toNat / 65536 : Nat) : Int) * (2 * l + 1) / 65536 ≤ 2 * l) := by
  have hx := x.isLt
  have h0 : x.toNat / 65536 ≤ 65535 := by omega
  generalize x.toNat / 65536 = y at *
  have a1 : 0 ≤ (y : Int) * (2 * l + 1) := Int.mul_nonneg (by omega) (by omega)
  have a2 : (y : Int) * (2 * l + 1) ≤ 65535 * 65535 := Int.mul_le_mul (by omega) (by omega) (by omega) (by omega)
  have a3 : (y : Int) * (2 * l + 1) ≤ 65535 * (2 * l + 1) := Int.mul_le_mul_of_nonneg_right (by omega) (by omega)
  refine ⟨⟨a1, by omega⟩, by omega, by omega⟩
def mkV (c n l p : Int) (x : V) (k : Nat) : Int := if c = 4 then noiseV (xsV x (k + 1)) l else atV c n l p k
theorem mkV_in {c n l p : Int} (h : RightW c n l p) (x : V) (k : Nat) : -l ≤ mkV c n l p x k ∧ mkV c n l p x k ≤ l := by
  unfold mkV
  split
  · unfold RightW at h
    have := noise_in (l := l) (by omega) (xsV x (k + 1))
    unfold noiseV
    omega
  · exact at_in h
def mkX (c : Int) (x : V) (k : Nat) : V := if c = 4 then xsV x k else x
def mkL (c n l p : Int) (x : V) (k : Nat) : List Int := (List.range k).map fun (j : Nat) => mkV c n l p x j
theorem mkL_len (c n l p : Int) (x : V) (k : Nat) : (mkL c n l p x k).length = k := by simp [mkL]
theorem mkL_succ (c n l p : Int) (x : V) (k : Nat) : mkL c n l p x (k + 1) = mkL c n l p x k ++ [mkV c n l p x k] := by simp [mkL, List.range_succ]
theorem mkL_get (c n l p : Int) (x : V) {k j : Nat} (h : j < k) : (mkL c n l p x k)[j]? = some (mkV c n l p x j) := by simp [mkL, h]
theorem shr_u (x : V) : shrI .u32 (x.toNat : Int) 16 = ((x.toNat / 65536 : Nat) : Int) := by
  unfold shrI
  rw [Int.fdiv_eq_ediv_of_nonneg _ (by decide)]
  rfl
theorem tdiv_u (x : V) : IntKind.u32.wrap (Int.tdiv (x.toNat : Int) 65536) = ((x.toNat / 65536 : Nat) : Int) := by
  have := x.isLt
  rw [show Int.tdiv (x.toNat : Int) 65536 = ((x.toNat / 65536 : Nat) : Int) by rw [Int.tdiv_eq_ediv_of_nonneg (by omega)]; omega, wrapu, Nat.mod_eq_of_lt (by omega)]
/-- The numbers of a noise's sample, as they are reckoned. -/
theorem noise_w {l : Int} (hl : 0 ≤ l ∧ l ≤ 32767) (x : V) : IntKind.i64.wrap ((x.toNat / 65536 : Nat) : Int) = ((x.toNat / 65536 : Nat) : Int) ∧ IntKind.i64.wrap (2 * l) = 2 * l ∧ IntKind.i64.wrap (2 * l + 1) = 2 * l + 1 ∧ IntKind.i64.wrap (((x.toNat / 65536 : Nat) : Int) * (2 * l + 1)) = ((x.toNat / 65536 : Nat) : Int) * (2 * l + 1) ∧
    Int.tdiv (((x.toNat / 65536 : Nat) : Int) * (2 * l + 1)) 65536 = ((x.toNat / 65536 : Nat) : Int) * (2 * l + 1) / 65536 ∧ IntKind.i64.wrap (((x.toNat / 65536 : Nat) : Int) * (2 * l + 1) / 65536) = ((x.toNat / 65536 : Nat) : Int) * (2 * l + 1) / 65536 ∧ IntKind.i64.wrap (((x.toNat / 65536 : Nat) : Int) * (2 * l + 1) / 65536 - l) = noiseV x l := by
  have hx := x.isLt
  have h := noise_in hl x
  unfold noiseV
  generalize hy : x.toNat / 65536 = y at *
  generalize hm : (y : Int) * (2 * l + 1) = m at *
  refine ⟨wrap64 (by omega) (by omega), wrap64 (by omega) (by omega), wrap64 (by omega) (by omega), wrap64 (by omega) (by omega), Int.tdiv_eq_ediv_of_nonneg h.1.1, wrap64 (by omega) (by omega), wrap64 (by omega) (by omega)⟩
theorem make_ok {c n l p : Int} (h : RightW c n l p) (x0 : V) (M : Nat) (h1 : 1 ≤ M) (hm : M ≤ 300) : g14 (0, [.i c, .i n, .i l, .i p, .i x0.toNat, .i M]) = some (1, [.n M, .i 0, .l (mkL c n l p (seed1 x0) M)]) := by
  have hl0 : 0 ≤ l ∧ l ≤ 32767 := by unfold RightW at h; omega
  have hl : L14_0 (0, [.i (seed1 x0).toNat, .i M, .i 0, .i c, .i n, .i l, .i p, .i x0.toNat]) = some (1, [.n M, .i c, .i n, .i l, .i p, .i x0.toNat, .l (mkL c n l p (seed1 x0) M)]) := by
    have main := loopL_run (m := 2) (f := f14_0) (fun k => if k = 0 then (0, [.i (seed1 x0).toNat, .i M, .i 0, .i c, .i n, .i l, .i p, .i x0.toNat]) else (1, [.n k, .i (mkX c (seed1 x0) k).toNat, .i M, .i k, .i c, .i n, .i l, .i p, .i x0.toNat, .l (mkL c n l p (seed1 x0) k)])) M (j := 1) (r := [.n M, .i c, .i n, .i l, .i p, .i x0.toNat, .l (mkL c n l p (seed1 x0) M)]) (fun k hk => ?_) ?_ (by omega)
    · unfold L14_0; exact main
    · have w2 : IntKind.i64.wrap ((k : Int) + 1) = ((k + 1 : Nat) : Int) := wrap_nat (n := k + 1) (by omega)
      have k1 : (k : Int) < M := by omega
      have ha := at_ok (s := x0.toNat) (i := k) h (by omega)
      obtain ⟨n1, n2, n3, n4, n5, n6, n7⟩ := noise_w hl0 (nx (xsV (seed1 x0) k))
      have hin := noise_in hl0 (nx (xsV (seed1 x0) k))
      have hf := floor_ok (((nx (xsV (seed1 x0) k)).toNat / 65536 : Nat) * (2 * l + 1)) 65536 (by unfold In64; omega) (by omega)
      have hr := rand_ok (xsV (seed1 x0) k)
      simp only [Nat.succ_ne_zero, if_false]
      refine ⟨?_, by show 1 < 2; omega⟩
      by_cases q : k = 0
      · subst q
        have ha' : g10 (0, [.i c, .i n, .i l, .i p, .i x0.toNat, .i 0]) = some (0, [.i (atV c n l p (0 : Nat))]) := ha
        have w2' : IntKind.i64.wrap ((0 : Int) + 1) = ((0 + 1 : Nat) : Int) := w2
        have hr' : g12 (0, [.i (seed1 x0).toNat]) = some (0, [.i (nx (xsV (seed1 x0) 0)).toNat]) := hr
        rw [if_pos rfl]
        by_cases d : c = 4
        · have et : mkL c n l p (seed1 x0) (0 + 1) = [noiseV (nx (xsV (seed1 x0) 0)) l] := by show [mkV c n l p (seed1 x0) 0] = _; unfold mkV; rw [if_pos d]; rfl
          have ex : mkX c (seed1 x0) (0 + 1) = nx (xsV (seed1 x0) 0) := by unfold mkX; rw [if_pos d]; rfl
          simp -implicitDefEqProofs only [f14_0, f14_0_0, asI_i, asN_n, asL_l, asB_b, asS_s, asE_nil, Bool.cond_decide, if_pos (show (0 : Int) < M by omega), if_neg (show ¬ c ≠ 4 from fun q => q d), hr', altK_0, shr_u, n1, n2, n3, n4, hf, n7, w2', et, ex]
        · have et : mkL c n l p (seed1 x0) (0 + 1) = [atV c n l p (0 : Nat)] := by show [mkV c n l p (seed1 x0) 0] = _; unfold mkV; rw [if_neg d]
          have ex : mkX c (seed1 x0) (0 + 1) = seed1 x0 := by unfold mkX; rw [if_neg d]
          simp -implicitDefEqProofs only [f14_0, f14_0_0, asI_i, asN_n, asL_l, asB_b, asS_s, asE_nil, Bool.cond_decide, if_pos (show (0 : Int) < M by omega), if_pos d, ha', altK_0, w2', et, ex, if_true]
      · rw [if_neg q]
        by_cases d : c = 4
        · have et : mkV c n l p (seed1 x0) k = noiseV (nx (xsV (seed1 x0) k)) l := by unfold mkV; rw [if_pos d]; rfl
          have e0 : mkX c (seed1 x0) k = xsV (seed1 x0) k := by unfold mkX; rw [if_pos d]
          have ex : mkX c (seed1 x0) (k + 1) = nx (xsV (seed1 x0) k) := by unfold mkX; rw [if_pos d]; rfl
          simp -implicitDefEqProofs only [f14_0, f14_0_1, asI_i, asN_n, asL_l, asB_b, asS_s, asE_nil, Bool.cond_decide, if_pos k1, altK_0, w2, mkL_succ, if_pos (show (k + 1) * 8 ≤ 70368744177664 by omega), if_pos (show (mkL c n l p (seed1 x0) k).length = k * 1 by rw [mkL_len]; omega), if_neg (show ¬ c ≠ 4 from fun q => q d), e0, hr, shr_u, n1, n2, n3, n4, hf, n7, et, ex]
        · have et : mkV c n l p (seed1 x0) k = atV c n l p k := by unfold mkV; rw [if_neg d]
          have e0 : mkX c (seed1 x0) k = seed1 x0 := by unfold mkX; rw [if_neg d]
          have ex : mkX c (seed1 x0) (k + 1) = seed1 x0 := by unfold mkX; rw [if_neg d]
          simp -implicitDefEqProofs only [f14_0, f14_0_1, asI_i, asN_n, asL_l, asB_b, asS_s, asE_nil, Bool.cond_decide, if_pos k1, altK_0, w2, mkL_succ, if_pos (show (k + 1) * 8 ≤ 70368744177664 by omega), if_pos (show (mkL c n l p (seed1 x0) k).length = k * 1 by rw [mkL_len]; omega), if_pos d, e0, ha, et, ex, if_true]
    · rw [if_neg (by omega)]
      simp -implicitDefEqProofs only [f14_0, f14_0_1, asI_i, asN_n, asL_l, asB_b, asS_s, asE_nil, Bool.cond_decide, if_neg (Int.lt_irrefl _)]
  have hr := right_ok c n l p x0.toNat
  rw [decide_eq_true h] at hr
  simp -implicitDefEqProofs only [g14, g14_0, asI_i, asN_n, asL_l, asB_b, asS_s, asE_nil, Bool.cond_decide, hr, altK_0, Bool.not_true, cond_false, if_neg (show ¬ (M : Int) < 0 by omega), if_neg (show ¬ (1048576 : Int) < M by omega), seed_or, hl, altK_1]
theorem make_0 {c n l p : Int} (h : RightW c n l p) (x0 : V) : g14 (0, [.i c, .i n, .i l, .i p, .i x0.toNat, .i 0]) = some (0, [.i 0]) := by
  have hl : L14_0 (0, [.i (seed1 x0).toNat, .i 0, .i 0, .i c, .i n, .i l, .i p, .i x0.toNat]) = some (0, [.i c, .i n, .i l, .i p, .i x0.toNat]) := loopL_last (m := 2) (f := f14_0) (j := 0) (by
    simp -implicitDefEqProofs only [f14_0, f14_0_0, asI_i, asN_n, asL_l, asB_b, asS_s, asE_nil, Bool.cond_decide, if_neg (Int.lt_irrefl _)])
  have hr := right_ok c n l p x0.toNat
  rw [decide_eq_true h] at hr
  simp -implicitDefEqProofs only [g14, g14_0, asI_i, asN_n, asL_l, asB_b, asS_s, asE_nil, Bool.cond_decide, hr, altK_0, Bool.not_true, cond_false, if_neg (Int.lt_irrefl _), if_neg (show ¬ (1048576 : Int) < 0 by omega), seed_or, hl]
theorem make_no {c n l p : Int} (h : ¬ RightW c n l p) (s a : Int) : g14 (0, [.i c, .i n, .i l, .i p, .i s, .i a]) = some (0, [.i 1]) := by
  have hr := right_ok c n l p s
  rw [decide_eq_false h] at hr
  simp -implicitDefEqProofs only [g14, g14_0, asI_i, asN_n, asL_l, asB_b, asS_s, asE_nil, Bool.cond_decide, hr, altK_0, Bool.not_false, cond_true]
theorem make_big {c n l p : Int} (h : RightW c n l p) (s a : Int) (ha : a < 0 ∨ 1048576 < a) : g14 (0, [.i c, .i n, .i l, .i p, .i s, .i a]) = some (0, [.i 12]) := by
  have hr := right_ok c n l p s
  rw [decide_eq_true h] at hr
  simp -implicitDefEqProofs only [g14, g14_0, asI_i, asN_n, asL_l, asB_b, asS_s, asE_nil, Bool.cond_decide, hr, altK_0, Bool.not_true, cond_false]
  by_cases q : a < 0
  · rw [if_pos q]
  · rw [if_neg q, if_pos (by omega)]
theorem law_loop {c n l p : Int} (h : RightW c n l p) (x0 : V) (M : Nat) (hm : M ≤ 300) (nm : List UInt8) (r : Int) :
    L5_0 (3, [.i M, .n M, .i (seed1 x0).toNat, .i 0, .i c, .i n, .i l, .i p, .i x0.toNat, .l (mkL c n l p (seed1 x0) M), .s nm, .i r, .i 0, .i 0, .n 1, .n M, .l (mkL c n l p (seed1 x0) M)]) = some (4, [.i c, .i n, .i l, .i p, .i x0.toNat, .l (mkL c n l p (seed1 x0) M), .s nm, .i r, .i 0, .i 0, .n 1, .n M, .l (mkL c n l p (seed1 x0) M)]) := by
  have main := loopL_run (m := 4) (f := f5_0) (fun k => (3, [.i M, .n M, .i (mkX c (seed1 x0) k).toNat, .i k, .i c, .i n, .i l, .i p, .i x0.toNat, .l (mkL c n l p (seed1 x0) M), .s nm, .i r, .i 0, .i 0, .n 1, .n M, .l (mkL c n l p (seed1 x0) M)])) M (j := 4) (r := [.i c, .i n, .i l, .i p, .i x0.toNat, .l (mkL c n l p (seed1 x0) M), .s nm, .i r, .i 0, .i 0, .n 1, .n M, .l (mkL c n l p (seed1 x0) M)]) (fun k hk => ⟨?_, by show 3 < 4; omega⟩) ?_ (by omega)
  · have e : mkX c (seed1 x0) 0 = seed1 x0 := by unfold mkX; split <;> rfl
    simp only [e] at main
    unfold L5_0; exact main
  · have hl0 : 0 ≤ l ∧ l ≤ 32767 := by unfold RightW at h; omega
    have w2 : IntKind.i64.wrap ((k : Int) + 1) = ((k + 1 : Nat) : Int) := wrap_nat (n := k + 1) (by omega)
    have k1 : (k : Int) < M := by omega
    have k3 : (0 : Int) ≤ k ∧ (k : Int) < M := by omega
    have ha := atL_ok (s := x0.toNat) (i := k) h
    have hb := mkV_in h (seed1 x0) k
    have hx := mkL_get c n l p (seed1 x0) hk
    have hne : ∀ x : Int, (x ≠ x) = False := fun x => by simp
    have hw : IntKind.i64.wrap (0 - l) = 0 - l := wrap64 (by omega) (by omega)
    obtain ⟨n1, n2, n3, n4, n5, n6, n7⟩ := noise_w hl0 (nx (xsV (seed1 x0) k))
    have hr := randL_ok (xsV (seed1 x0) k)
    have z1 : (0 : Int) ≤ 0 ∧ (0 : Int) < ((1 : Nat) : Int) := by omega
    by_cases d : c = 4
    · have et : mkV c n l p (seed1 x0) k = noiseV (nx (xsV (seed1 x0) k)) l := by unfold mkV; rw [if_pos d]; rfl
      have e0 : mkX c (seed1 x0) k = xsV (seed1 x0) k := by unfold mkX; rw [if_pos d]
      have ex : mkX c (seed1 x0) (k + 1) = nx (xsV (seed1 x0) k) := by unfold mkX; rw [if_pos d]; rfl
      rw [et] at hb hx
      simp -implicitDefEqProofs only [f5_0, f5_0_3, asI_i, asN_n, asL_l, asB_b, asS_s, asE_nil, Bool.cond_decide, if_pos k1, if_pos k3, ha, altK_0, Int.toNat_natCast, hx, optK_some, hne, if_false, if_pos z1, w2, hw, if_pos d, e0, hr, tdiv_u, n1, n2, n3, n4, n5, n6, n7, if_neg (show ¬ l < noiseV (nx (xsV (seed1 x0) k)) l by omega), if_neg (show ¬ noiseV (nx (xsV (seed1 x0) k)) l < 0 - l by omega), ex]
    · have et : mkV c n l p (seed1 x0) k = atV c n l p k := by unfold mkV; rw [if_neg d]
      have e0 : mkX c (seed1 x0) k = seed1 x0 := by unfold mkX; rw [if_neg d]
      have ex : mkX c (seed1 x0) (k + 1) = seed1 x0 := by unfold mkX; rw [if_neg d]
      rw [et] at hb hx
      simp -implicitDefEqProofs only [f5_0, f5_0_3, asI_i, asN_n, asL_l, asB_b, asS_s, asE_nil, Bool.cond_decide, if_pos k1, if_pos k3, ha, altK_0, Int.toNat_natCast, hx, optK_some, hne, if_false, if_pos z1, w2, hw, if_neg d, e0, if_neg (show ¬ l < atV c n l p k by omega), if_neg (show ¬ atV c n l p k < 0 - l by omega), ex]
  · simp -implicitDefEqProofs only [f5_0, f5_0_3, asI_i, asN_n, asL_l, asB_b, asS_s, asE_nil, Bool.cond_decide, if_neg (Int.lt_irrefl _)]
theorem law_loop0 (c n l p s x : Int) (nm : List UInt8) (r : Int) :
    L5_0 (0, [.i 0, .i x, .i 0, .i c, .i n, .i l, .i p, .i s, .s nm, .i r, .i 0, .i 0, .n 1]) = some (0, [.i c, .i n, .i l, .i p, .i s, .s nm, .i r, .i 0, .i 0, .n 1]) := loopL_last (m := 4) (f := f5_0) (j := 0) (by
  simp -implicitDefEqProofs only [f5_0, f5_0_0, asI_i, asN_n, asL_l, asB_b, asS_s, asE_nil, Bool.cond_decide, if_neg (Int.lt_irrefl _)])
theorem makes_mid (c n l p : Int) (x0 : V) (a : Int) (nm : List UInt8) (r : Int) (h3 : 300 < a) (h4 : a ≤ 1048576) : g5 (0, [.i c, .i n, .i l, .i p, .i x0.toNat, .i a, .s nm, .i r]) = some (0, [.b true]) := by
  have hne : ∀ x : Int, (x ≠ x) = False := fun x => by simp
  have hnes : ∀ x : List UInt8, (x ≠ x) = False := fun x => by simp
  have n10 : ((1 : Int) ≠ 0) = True := by simp
  have n12 : ((12 : Int) ≠ 0) = True := by simp
  have n11 : (((1 : Nat) : Int) ≠ 1) = False := by simp
  have z1 : (0 : Int) ≤ 0 ∧ (0 : Int) < ((1 : Nat) : Int) := by omega
  simp -implicitDefEqProofs only [g5, g5_0, g15, g15_0, asI_i, asN_n, asL_l, asB_b, asS_s, asE_nil, Bool.cond_decide, hne, hnes, if_false, if_true, altK_0, altK_1, altK_2, altK_3, altK_4, rightL_ok, if_pos h3, if_pos h4, awakeL_ok]
theorem makes_big (c n l p : Int) (x0 : V) (a : Int) (nm : List UInt8) (r : Int) (h4 : ¬ a ≤ 1048576) (h : RightW c n l p) : g5 (0, [.i c, .i n, .i l, .i p, .i x0.toNat, .i a, .s nm, .i r]) = some (0, [.b true]) := by
  have hne : ∀ x : Int, (x ≠ x) = False := fun x => by simp
  have hnes : ∀ x : List UInt8, (x ≠ x) = False := fun x => by simp
  have n10 : ((1 : Int) ≠ 0) = True := by simp
  have n12 : ((12 : Int) ≠ 0) = True := by simp
  have n11 : (((1 : Nat) : Int) ≠ 1) = False := by simp
  have z1 : (0 : Int) ≤ 0 ∧ (0 : Int) < ((1 : Nat) : Int) := by omega
  have hk := make_big h x0.toNat a (by omega)
  simp -implicitDefEqProofs only [g5, g5_0, g15, g15_0, asI_i, asN_n, asL_l, asB_b, asS_s, asE_nil, Bool.cond_decide, hne, hnes, if_false, if_true, altK_0, altK_1, altK_2, altK_3, altK_4, rightL_ok, if_pos (show 300 < a by omega), if_neg h4, hk, n12, if_neg (show ¬ a < 0 by omega), if_pos (show 1048576 < a by omega), decide_eq_true h, Bool.not_true, cond_false, awakeL_ok]
theorem makes_bigno (c n l p : Int) (x0 : V) (a : Int) (nm : List UInt8) (r : Int) (h4 : ¬ a ≤ 1048576) (h : ¬ RightW c n l p) : g5 (0, [.i c, .i n, .i l, .i p, .i x0.toNat, .i a, .s nm, .i r]) = some (0, [.b true]) := by
  have hne : ∀ x : Int, (x ≠ x) = False := fun x => by simp
  have hnes : ∀ x : List UInt8, (x ≠ x) = False := fun x => by simp
  have n10 : ((1 : Int) ≠ 0) = True := by simp
  have n12 : ((12 : Int) ≠ 0) = True := by simp
  have n11 : (((1 : Nat) : Int) ≠ 1) = False := by simp
  have z1 : (0 : Int) ≤ 0 ∧ (0 : Int) < ((1 : Nat) : Int) := by omega
  have hk := make_no h x0.toNat a
  simp -implicitDefEqProofs only [g5, g5_0, g15, g15_0, asI_i, asN_n, asL_l, asB_b, asS_s, asE_nil, Bool.cond_decide, hne, hnes, if_false, if_true, altK_0, altK_1, altK_2, altK_3, altK_4, rightL_ok, if_pos (show 300 < a by omega), if_neg h4, hk, n10, if_neg (show ¬ a < 0 by omega), if_pos (show 1048576 < a by omega), decide_eq_false h, Bool.not_false, cond_true, awakeL_ok]
theorem makes_neg (c n l p : Int) (x0 : V) (a : Int) (nm : List UInt8) (r : Int) (h0 : a < 0) (h : RightW c n l p) : g5 (0, [.i c, .i n, .i l, .i p, .i x0.toNat, .i a, .s nm, .i r]) = some (0, [.b true]) := by
  have hne : ∀ x : Int, (x ≠ x) = False := fun x => by simp
  have hnes : ∀ x : List UInt8, (x ≠ x) = False := fun x => by simp
  have n10 : ((1 : Int) ≠ 0) = True := by simp
  have n12 : ((12 : Int) ≠ 0) = True := by simp
  have n11 : (((1 : Nat) : Int) ≠ 1) = False := by simp
  have z1 : (0 : Int) ≤ 0 ∧ (0 : Int) < ((1 : Nat) : Int) := by omega
  have hk := make_big h x0.toNat a (by omega)
  simp -implicitDefEqProofs only [g5, g5_0, g15, g15_0, asI_i, asN_n, asL_l, asB_b, asS_s, asE_nil, Bool.cond_decide, hne, hnes, if_false, if_true, altK_0, altK_1, altK_2, altK_3, altK_4, rightL_ok, if_neg (show ¬ 300 < a by omega), hk, n12, if_pos h0, decide_eq_true h, Bool.not_true, cond_false, awakeL_ok]
theorem makes_negno (c n l p : Int) (x0 : V) (a : Int) (nm : List UInt8) (r : Int) (h0 : a < 0) (h : ¬ RightW c n l p) : g5 (0, [.i c, .i n, .i l, .i p, .i x0.toNat, .i a, .s nm, .i r]) = some (0, [.b true]) := by
  have hne : ∀ x : Int, (x ≠ x) = False := fun x => by simp
  have hnes : ∀ x : List UInt8, (x ≠ x) = False := fun x => by simp
  have n10 : ((1 : Int) ≠ 0) = True := by simp
  have n12 : ((12 : Int) ≠ 0) = True := by simp
  have n11 : (((1 : Nat) : Int) ≠ 1) = False := by simp
  have z1 : (0 : Int) ≤ 0 ∧ (0 : Int) < ((1 : Nat) : Int) := by omega
  have hk := make_no h x0.toNat a
  simp -implicitDefEqProofs only [g5, g5_0, g15, g15_0, asI_i, asN_n, asL_l, asB_b, asS_s, asE_nil, Bool.cond_decide, hne, hnes, if_false, if_true, altK_0, altK_1, altK_2, altK_3, altK_4, rightL_ok, if_neg (show ¬ 300 < a by omega), hk, n10, if_pos h0, decide_eq_false h, Bool.not_false, cond_true, awakeL_ok]
theorem makes_few_no (c n l p : Int) (x0 : V) (a : Int) (nm : List UInt8) (r : Int) (h0 : ¬ a < 0) (h3 : ¬ 300 < a) (h : ¬ RightW c n l p) : g5 (0, [.i c, .i n, .i l, .i p, .i x0.toNat, .i a, .s nm, .i r]) = some (0, [.b true]) := by
  have hne : ∀ x : Int, (x ≠ x) = False := fun x => by simp
  have hnes : ∀ x : List UInt8, (x ≠ x) = False := fun x => by simp
  have n10 : ((1 : Int) ≠ 0) = True := by simp
  have n12 : ((12 : Int) ≠ 0) = True := by simp
  have n11 : (((1 : Nat) : Int) ≠ 1) = False := by simp
  have z1 : (0 : Int) ≤ 0 ∧ (0 : Int) < ((1 : Nat) : Int) := by omega
  have hk := make_no h x0.toNat a
  simp -implicitDefEqProofs only [g5, g5_0, g15, g15_0, asI_i, asN_n, asL_l, asB_b, asS_s, asE_nil, Bool.cond_decide, hne, hnes, if_false, if_true, altK_0, altK_1, altK_2, altK_3, altK_4, rightL_ok, if_neg h3, hk, n10, if_neg h0, if_neg (show ¬ 1048576 < a by omega), decide_eq_false h, Bool.not_false, cond_true, awakeL_ok]
theorem makes_z_e (c n l p : Int) (x0 : V) (nm : List UInt8) (r : Int) (h : RightW c n l p) (e : x0.toNat % 2 = 0) : g5 (0, [.i c, .i n, .i l, .i p, .i x0.toNat, .i 0, .s nm, .i r]) = some (0, [.b true]) := by
  have hne : ∀ x : Int, (x ≠ x) = False := fun x => by simp
  have hnes : ∀ x : List UInt8, (x ≠ x) = False := fun x => by simp
  have n10 : ((1 : Int) ≠ 0) = True := by simp
  have n12 : ((12 : Int) ≠ 0) = True := by simp
  have n11 : (((1 : Nat) : Int) ≠ 1) = False := by simp
  have z1 : (0 : Int) ≤ 0 ∧ (0 : Int) < ((1 : Nat) : Int) := by omega
  have hk := make_0 h x0
  have em : Int.tmod (x0.toNat : Int) 2 = 0 := by rw [Int.tmod_eq_emod_of_nonneg (by omega)]; omega
  simp -implicitDefEqProofs only [g5, g5_0, g15, g15_0, asI_i, asN_n, asL_l, asB_b, asS_s, asE_nil, Bool.cond_decide, hne, hnes, if_false, if_true, altK_0, altK_1, altK_2, altK_3, altK_4, rightL_ok, if_neg (show ¬ (300 : Int) < 0 by omega), hk, if_neg (Int.lt_irrefl 0), if_neg (show ¬ (1048576 : Int) < 0 by omega), decide_eq_true h, Bool.not_true, cond_false, n11, if_pos z1, law_loop0, awakeL_ok, if_pos em, seed_even e]
theorem makes_z_o (c n l p : Int) (x0 : V) (nm : List UInt8) (r : Int) (h : RightW c n l p) (e : ¬ x0.toNat % 2 = 0) : g5 (0, [.i c, .i n, .i l, .i p, .i x0.toNat, .i 0, .s nm, .i r]) = some (0, [.b true]) := by
  have hne : ∀ x : Int, (x ≠ x) = False := fun x => by simp
  have hnes : ∀ x : List UInt8, (x ≠ x) = False := fun x => by simp
  have n10 : ((1 : Int) ≠ 0) = True := by simp
  have n12 : ((12 : Int) ≠ 0) = True := by simp
  have n11 : (((1 : Nat) : Int) ≠ 1) = False := by simp
  have z1 : (0 : Int) ≤ 0 ∧ (0 : Int) < ((1 : Nat) : Int) := by omega
  have hk := make_0 h x0
  have em : ¬ Int.tmod (x0.toNat : Int) 2 = 0 := by rw [Int.tmod_eq_emod_of_nonneg (by omega)]; omega
  simp -implicitDefEqProofs only [g5, g5_0, g15, g15_0, asI_i, asN_n, asL_l, asB_b, asS_s, asE_nil, Bool.cond_decide, hne, hnes, if_false, if_true, altK_0, altK_1, altK_2, altK_3, altK_4, rightL_ok, if_neg (show ¬ (300 : Int) < 0 by omega), hk, if_neg (Int.lt_irrefl 0), if_neg (show ¬ (1048576 : Int) < 0 by omega), decide_eq_true h, Bool.not_true, cond_false, n11, if_pos z1, law_loop0, awakeL_ok, if_neg em]
theorem makes_m_e (c n l p : Int) (x0 : V) (M : Nat) (nm : List UInt8) (r : Int) (h1 : 1 ≤ M) (hm : M ≤ 300) (h : RightW c n l p) (e : x0.toNat % 2 = 0) : g5 (0, [.i c, .i n, .i l, .i p, .i x0.toNat, .i M, .s nm, .i r]) = some (0, [.b true]) := by
  have hne : ∀ x : Int, (x ≠ x) = False := fun x => by simp
  have hnes : ∀ x : List UInt8, (x ≠ x) = False := fun x => by simp
  have n10 : ((1 : Int) ≠ 0) = True := by simp
  have n12 : ((12 : Int) ≠ 0) = True := by simp
  have n11 : (((1 : Nat) : Int) ≠ 1) = False := by simp
  have z1 : (0 : Int) ≤ 0 ∧ (0 : Int) < ((1 : Nat) : Int) := by omega
  have hk := make_ok h x0 M h1 hm
  have hl := law_loop h x0 M hm nm r
  have em : Int.tmod (x0.toNat : Int) 2 = 0 := by rw [Int.tmod_eq_emod_of_nonneg (by omega)]; omega
  simp -implicitDefEqProofs only [g5, g5_0, g15, g15_0, asI_i, asN_n, asL_l, asB_b, asS_s, asE_nil, Bool.cond_decide, hne, hnes, if_false, if_true, altK_0, altK_1, altK_2, altK_3, altK_4, rightL_ok, if_neg (show ¬ (300 : Int) < M by omega), hk, if_neg (show ¬ (M : Int) < 0 by omega), if_neg (show ¬ (1048576 : Int) < M by omega), decide_eq_true h, Bool.not_true, cond_false, n11, if_pos z1, awakeL_ok, if_pos em, seed_even e, hl]
theorem makes_m_o (c n l p : Int) (x0 : V) (M : Nat) (nm : List UInt8) (r : Int) (h1 : 1 ≤ M) (hm : M ≤ 300) (h : RightW c n l p) (e : ¬ x0.toNat % 2 = 0) : g5 (0, [.i c, .i n, .i l, .i p, .i x0.toNat, .i M, .s nm, .i r]) = some (0, [.b true]) := by
  have hne : ∀ x : Int, (x ≠ x) = False := fun x => by simp
  have hnes : ∀ x : List UInt8, (x ≠ x) = False := fun x => by simp
  have n10 : ((1 : Int) ≠ 0) = True := by simp
  have n12 : ((12 : Int) ≠ 0) = True := by simp
  have n11 : (((1 : Nat) : Int) ≠ 1) = False := by simp
  have z1 : (0 : Int) ≤ 0 ∧ (0 : Int) < ((1 : Nat) : Int) := by omega
  have hk := make_ok h x0 M h1 hm
  have hl := law_loop h x0 M hm nm r
  have em : ¬ Int.tmod (x0.toNat : Int) 2 = 0 := by rw [Int.tmod_eq_emod_of_nonneg (by omega)]; omega
  have eo := seed_odd e
  have hl' : ∀ s : Int, s = (seed1 x0).toNat → L5_0 (3, [.i M, .n M, .i s, .i 0, .i c, .i n, .i l, .i p, .i x0.toNat, .l (mkL c n l p (seed1 x0) M), .s nm, .i r, .i 0, .i 0, .n 1, .n M, .l (mkL c n l p (seed1 x0) M)]) = some (4, [.i c, .i n, .i l, .i p, .i x0.toNat, .l (mkL c n l p (seed1 x0) M), .s nm, .i r, .i 0, .i 0, .n 1, .n M, .l (mkL c n l p (seed1 x0) M)]) := by intro s hs; subst hs; exact hl
  have hl2 := hl' x0.toNat (by omega)
  simp -implicitDefEqProofs only [g5, g5_0, g15, g15_0, asI_i, asN_n, asL_l, asB_b, asS_s, asE_nil, Bool.cond_decide, hne, hnes, if_false, if_true, altK_0, altK_1, altK_2, altK_3, altK_4, rightL_ok, if_neg (show ¬ (300 : Int) < M by omega), hk, if_neg (show ¬ (M : Int) < 0 by omega), if_neg (show ¬ (1048576 : Int) < M by omega), decide_eq_true h, Bool.not_true, cond_false, n11, if_pos z1, awakeL_ok, if_neg em, hl2]
theorem makes (c n l p : Int) (x0 : V) (a : Int) (nm : List UInt8) (r : Int) : g5 (0, [.i c, .i n, .i l, .i p, .i x0.toNat, .i a, .s nm, .i r]) = some (0, [.b true]) := by
  by_cases h4 : a ≤ 1048576
  · by_cases h3 : 300 < a
    · exact makes_mid c n l p x0 a nm r h3 h4
    · by_cases h : RightW c n l p
      · by_cases h0 : a < 0
        · exact makes_neg c n l p x0 a nm r h0 h
        · by_cases e : x0.toNat % 2 = 0
          · by_cases z : a = 0
            · subst z; exact makes_z_e c n l p x0 nm r h e
            · obtain ⟨M, rfl⟩ : ∃ M : Nat, a = M := ⟨a.toNat, by omega⟩
              exact makes_m_e c n l p x0 M nm r (by omega) (by omega) h e
          · by_cases z : a = 0
            · subst z; exact makes_z_o c n l p x0 nm r h e
            · obtain ⟨M, rfl⟩ : ∃ M : Nat, a = M := ⟨a.toNat, by omega⟩
              exact makes_m_o c n l p x0 M nm r (by omega) (by omega) h e
      · by_cases h0 : a < 0
        · exact makes_negno c n l p x0 a nm r h0 h
        · exact makes_few_no c n l p x0 a nm r h0 h3 h
  · by_cases h : RightW c n l p
    · exact makes_big c n l p x0 a nm r h4 h
    · exact makes_bigno c n l p x0 a nm r h4 h
theorem makes_ev (c n l p s a : Int) (ws : (Lit.int .u32 s).wf = true) (nm : List UInt8) (r : Int) : ∃ d, evF tab d 5 [.agg [.int .i64 c, .int .i64 n, .int .i64 l, .int .i64 p, .int .u32 s], .int .i64 a, .str nm, .int .i64 r] [] = some (.bool true, [], []) := by
  have hs := u32_wf ws
  obtain ⟨x0, rfl⟩ : ∃ x0 : V, s = (x0.toNat : Int) := ⟨BitVec.ofNat 32 s.toNat, by rw [BitVec.toNat_ofNat, Nat.mod_eq_of_lt (by omega)]; omega⟩
  exact ⟨_, (ok5 0).ret (i := 0) (ls := [.i c, .i n, .i l, .i p, .i x0.toNat, .i a, .s nm, .i r]) (j := 0) (r := [.b true]) (makes c n l p x0 a nm r) rfl rfl rfl rfl⟩
end Go.Proofs.Ytgmlibigknnbmaa
