/-
  ViewCoarse: the law, of frames with room. Conditions: none.
-/
import Derived.Test.YtmghafpbaigkaaaDecC
import Derived.KernelRfl
namespace Go.Proofs.Ytmghafpbaigkaaa
open Go Go.Sx C
set_option maxRecDepth 100000
set_option linter.unusedVariables false
attribute [local simp] asI_i asB_b asL_l asN_n asS_s asE_nil altK_none altK_0 altK_1 altK_2 altK_3 optK_some optK_none Bool.cond_decide Bool.cond_not Int.toNat_natCast
set_option linter.unusedSimpArgs false

def hit (h : List Int) (s : Int) (i k : Nat) : Int := if h.getD (i * 29 + (5 + k)) 0 = s ∧ 0 < h.getD (i * 29 + (9 + k)) 0 then 1 else 0
def part (h : List Int) (s : Int) (i : Nat) : Nat → Int
  | 0 => 0
  | k + 1 => part h s i k + hit h s i k
def cnt (h : List Int) (s : Int) : Nat → Int
  | 0 => 0
  | i + 1 => cnt h s i + part h s i 4
theorem hit_b (h : List Int) (s : Int) (i k : Nat) : 0 ≤ hit h s i k ∧ hit h s i k ≤ 1 := by
  unfold hit; split <;> omega
theorem part_b (h : List Int) (s : Int) (i : Nat) : ∀ k, 0 ≤ part h s i k ∧ part h s i k ≤ k
  | 0 => ⟨Int.le_refl _, Int.le_refl _⟩
  | k + 1 => by
    have a := part_b h s i k
    have b := hit_b h s i k
    show 0 ≤ part h s i k + hit h s i k ∧ part h s i k + hit h s i k ≤ (k + 1 : Nat)
    omega
theorem cnt_b (h : List Int) (s : Int) : ∀ i, 0 ≤ cnt h s i ∧ cnt h s i ≤ 4 * i
  | 0 => ⟨Int.le_refl _, Int.le_refl _⟩
  | i + 1 => by
    have a := cnt_b h s i
    have b := part_b h s i 4
    show 0 ≤ cnt h s i + part h s i 4 ∧ cnt h s i + part h s i 4 ≤ 4 * (i + 1 : Nat)
    omega
def bumpL (o : List Int) (s w : Int) : List Int := if 0 ≤ s then if s ≤ 23 then if 0 < w then o.set s.toNat (IntKind.i64.wrap (o.getD s.toNat 0 + 1)) else o else o else o
theorem bump_len (o : List Int) (s w : Int) : (bumpL o s w).length = o.length := by
  unfold bumpL
  (repeat' split) <;> simp only [List.length_set]
def hist (h : List Int) (i k : Nat) : List Int := (List.range 24).map fun (s : Nat) => cnt h (s : Int) i + part h (s : Int) i k
theorem hist_len (h : List Int) (i k : Nat) : (hist h i k).length = 24 := by
  unfold hist; rw [List.length_map, List.length_range]
theorem hist_get (h : List Int) (i k s : Nat) (hs : s < 24) : (hist h i k)[s]? = some (cnt h (s : Int) i + part h (s : Int) i k) := by
  unfold hist
  rw [List.getElem?_map, List.getElem?_range hs]; rfl
theorem hist_next (h : List Int) (i : Nat) : hist h i 4 = hist h (i + 1) 0 := by
  unfold hist
  exact List.map_congr_left (fun s _ => (Int.add_zero _).symm)
theorem bump_hist (h : List Int) (i k : Nat) (hi : i < 20) (hk : k < 4) : bumpL (hist h i k) (h.getD (i * 29 + (5 + k)) 0) (h.getD (i * 29 + (9 + k)) 0) = hist h i (k + 1) := by
  refine List.ext_getElem? fun s => ?_
  by_cases hs : s < 24
  · rw [hist_get h i (k + 1) s hs]
    have hp : part h (s : Int) i (k + 1) = part h (s : Int) i k + hit h (s : Int) i k := rfl
    rw [hp]
    unfold bumpL hit
    have g := hist_get h i k s hs
    have hc := cnt_b h (s : Int) i
    have hq := part_b h (s : Int) i k
    have gd : (hist h i k).getD s 0 = cnt h (s : Int) i + part h (s : Int) i k := by rw [List.getD_eq_getElem?_getD, g]; rfl
    have hl := hist_len h i k
    generalize h.getD (i * 29 + (5 + k)) 0 = x at *
    generalize h.getD (i * 29 + (9 + k)) 0 = w at *
    generalize part h (s : Int) i k = q at *
    by_cases c0 : 0 ≤ x
    · rw [if_pos c0]
      by_cases c1 : x ≤ 23
      · rw [if_pos c1]
        by_cases c2 : 0 < w
        · rw [if_pos c2]
          by_cases e : x = (s : Int)
          · rw [if_pos ⟨e, c2⟩, e, Int.toNat_natCast, gd, List.getElem?_set_self (by omega)]
            have : IntKind.i64.wrap (cnt h (s : Int) i + q + 1) = cnt h (s : Int) i + q + 1 := wrap64 (by omega) (by omega)
            rw [this, Int.add_assoc]
          · rw [if_neg (fun a => e a.1), List.getElem?_set_ne (by omega), g, Int.add_zero]
        · rw [if_neg c2, if_neg (fun a => c2 a.2), g, Int.add_zero]
      · rw [if_neg c1, if_neg (fun a => by omega), g, Int.add_zero]
    · rw [if_neg c0, if_neg (fun a => by omega), g, Int.add_zero]
  · rw [List.getElem?_eq_none (by rw [bump_len, hist_len]; omega), List.getElem?_eq_none (by rw [hist_len]; omega)]

theorem in_0 (n : Nat) (a i s0 s1 s2 s3 c0 c1 c2 c3 c5 c6 c7 c8 c9 c10 c11 c12 c13 c14 c15 c16 c17 c18 c19 c20 c21 c22 c23 c24 c25 c26 c27 c28 : Int) (h z o : List Int) (ho : o.length = 24) : f11_0 (0, [.n n, .i a, .i i, .i s0, .i s1, .i s2, .i s3, .l h, .l z, .l o, .i c0, .i c1, .i c2, .i c3, .i c5, .i c6, .i c7, .i c8, .i c9, .i c10, .i c11, .i c12, .i c13, .i c14, .i c15, .i c16, .i c17, .i c18, .i c19, .i c20, .i c21, .i c22, .i c23, .i c24, .i c25, .i c26, .i c27, .i c28]) = some (1, [.n n, .i a, .i i, .i s0, .i s1, .i s2, .i s3, .l h, .l z, .l (bumpL o s0 c9), .i c0, .i c1, .i c2, .i c3, .i c5, .i c6, .i c7, .i c8, .i c9, .i c10, .i c11, .i c12, .i c13, .i c14, .i c15, .i c16, .i c17, .i c18, .i c19, .i c20, .i c21, .i c22, .i c23, .i c24, .i c25, .i c26, .i c27, .i c28]) := by
  by_cases c0 : 0 ≤ s0
  · by_cases c1 : s0 ≤ 23
    · by_cases c2 : 0 < c9
      · have hb : bumpL o s0 c9 = o.set s0.toNat (IntKind.i64.wrap (o.getD s0.toNat 0 + 1)) := by unfold bumpL; rw [if_pos c0, if_pos c1, if_pos c2]
        have hg : o[s0.toNat]? = some (o.getD s0.toNat 0) := get_some (by omega)
        rw [hb]
        generalize o.getD s0.toNat 0 = v at *
        simp -implicitDefEqProofs only [f11_0, f11_0_0, asI_i, asI4_i, asN_n, asL_l, asB_b, asE_nil, Bool.cond_decide, Bool.cond_not, if_pos c0, if_pos c1, if_pos c2, if_pos (show 0 ≤ s0 ∧ s0 < 24 from ⟨c0, by omega⟩), hg, optK_some, if_pos (show s0.toNat < o.length by omega)]
      · have hb : bumpL o s0 c9 = o := by unfold bumpL; rw [if_pos c0, if_pos c1, if_neg c2]
        rw [hb]
        simp -implicitDefEqProofs only [f11_0, f11_0_0, asI_i, asI4_i, asN_n, asL_l, asB_b, asE_nil, Bool.cond_decide, Bool.cond_not, if_pos c0, if_pos c1, if_neg c2]
    · have hb : bumpL o s0 c9 = o := by unfold bumpL; rw [if_pos c0, if_neg c1]
      rw [hb]
      simp -implicitDefEqProofs only [f11_0, f11_0_0, asI_i, asI4_i, asN_n, asL_l, asB_b, asE_nil, Bool.cond_decide, Bool.cond_not, if_pos c0, if_neg c1]
  · have hb : bumpL o s0 c9 = o := by unfold bumpL; rw [if_neg c0]
    rw [hb]
    simp -implicitDefEqProofs only [f11_0, f11_0_0, asI_i, asI4_i, asN_n, asL_l, asB_b, asE_nil, Bool.cond_decide, Bool.cond_not, if_neg c0]
theorem in_1 (n : Nat) (a i s0 s1 s2 s3 c0 c1 c2 c3 c5 c6 c7 c8 c9 c10 c11 c12 c13 c14 c15 c16 c17 c18 c19 c20 c21 c22 c23 c24 c25 c26 c27 c28 : Int) (h z o : List Int) (ho : o.length = 24) : f11_0 (1, [.n n, .i a, .i i, .i s0, .i s1, .i s2, .i s3, .l h, .l z, .l o, .i c0, .i c1, .i c2, .i c3, .i c5, .i c6, .i c7, .i c8, .i c9, .i c10, .i c11, .i c12, .i c13, .i c14, .i c15, .i c16, .i c17, .i c18, .i c19, .i c20, .i c21, .i c22, .i c23, .i c24, .i c25, .i c26, .i c27, .i c28]) = some (2, [.n n, .i a, .i i, .i s0, .i s1, .i s2, .i s3, .l h, .l z, .l (bumpL o s1 c10), .i c0, .i c1, .i c2, .i c3, .i c5, .i c6, .i c7, .i c8, .i c9, .i c10, .i c11, .i c12, .i c13, .i c14, .i c15, .i c16, .i c17, .i c18, .i c19, .i c20, .i c21, .i c22, .i c23, .i c24, .i c25, .i c26, .i c27, .i c28]) := by
  by_cases c0 : 0 ≤ s1
  · by_cases c1 : s1 ≤ 23
    · by_cases c2 : 0 < c10
      · have hb : bumpL o s1 c10 = o.set s1.toNat (IntKind.i64.wrap (o.getD s1.toNat 0 + 1)) := by unfold bumpL; rw [if_pos c0, if_pos c1, if_pos c2]
        have hg : o[s1.toNat]? = some (o.getD s1.toNat 0) := get_some (by omega)
        rw [hb]
        generalize o.getD s1.toNat 0 = v at *
        simp -implicitDefEqProofs only [f11_0, f11_0_1, asI_i, asI4_i, asN_n, asL_l, asB_b, asE_nil, Bool.cond_decide, Bool.cond_not, if_pos c0, if_pos c1, if_pos c2, if_pos (show 0 ≤ s1 ∧ s1 < 24 from ⟨c0, by omega⟩), hg, optK_some, if_pos (show s1.toNat < o.length by omega)]
      · have hb : bumpL o s1 c10 = o := by unfold bumpL; rw [if_pos c0, if_pos c1, if_neg c2]
        rw [hb]
        simp -implicitDefEqProofs only [f11_0, f11_0_1, asI_i, asI4_i, asN_n, asL_l, asB_b, asE_nil, Bool.cond_decide, Bool.cond_not, if_pos c0, if_pos c1, if_neg c2]
    · have hb : bumpL o s1 c10 = o := by unfold bumpL; rw [if_pos c0, if_neg c1]
      rw [hb]
      simp -implicitDefEqProofs only [f11_0, f11_0_1, asI_i, asI4_i, asN_n, asL_l, asB_b, asE_nil, Bool.cond_decide, Bool.cond_not, if_pos c0, if_neg c1]
  · have hb : bumpL o s1 c10 = o := by unfold bumpL; rw [if_neg c0]
    rw [hb]
    simp -implicitDefEqProofs only [f11_0, f11_0_1, asI_i, asI4_i, asN_n, asL_l, asB_b, asE_nil, Bool.cond_decide, Bool.cond_not, if_neg c0]
theorem in_2 (n : Nat) (a i s0 s1 s2 s3 c0 c1 c2 c3 c5 c6 c7 c8 c9 c10 c11 c12 c13 c14 c15 c16 c17 c18 c19 c20 c21 c22 c23 c24 c25 c26 c27 c28 : Int) (h z o : List Int) (ho : o.length = 24) : f11_0 (2, [.n n, .i a, .i i, .i s0, .i s1, .i s2, .i s3, .l h, .l z, .l o, .i c0, .i c1, .i c2, .i c3, .i c5, .i c6, .i c7, .i c8, .i c9, .i c10, .i c11, .i c12, .i c13, .i c14, .i c15, .i c16, .i c17, .i c18, .i c19, .i c20, .i c21, .i c22, .i c23, .i c24, .i c25, .i c26, .i c27, .i c28]) = some (3, [.n n, .i a, .i i, .i s0, .i s1, .i s2, .i s3, .l h, .l z, .l (bumpL o s2 c11), .i c0, .i c1, .i c2, .i c3, .i c5, .i c6, .i c7, .i c8, .i c9, .i c10, .i c11, .i c12, .i c13, .i c14, .i c15, .i c16, .i c17, .i c18, .i c19, .i c20, .i c21, .i c22, .i c23, .i c24, .i c25, .i c26, .i c27, .i c28]) := by
  by_cases c0 : 0 ≤ s2
  · by_cases c1 : s2 ≤ 23
    · by_cases c2 : 0 < c11
      · have hb : bumpL o s2 c11 = o.set s2.toNat (IntKind.i64.wrap (o.getD s2.toNat 0 + 1)) := by unfold bumpL; rw [if_pos c0, if_pos c1, if_pos c2]
        have hg : o[s2.toNat]? = some (o.getD s2.toNat 0) := get_some (by omega)
        rw [hb]
        generalize o.getD s2.toNat 0 = v at *
        simp -implicitDefEqProofs only [f11_0, f11_0_2, asI_i, asI4_i, asN_n, asL_l, asB_b, asE_nil, Bool.cond_decide, Bool.cond_not, if_pos c0, if_pos c1, if_pos c2, if_pos (show 0 ≤ s2 ∧ s2 < 24 from ⟨c0, by omega⟩), hg, optK_some, if_pos (show s2.toNat < o.length by omega)]
      · have hb : bumpL o s2 c11 = o := by unfold bumpL; rw [if_pos c0, if_pos c1, if_neg c2]
        rw [hb]
        simp -implicitDefEqProofs only [f11_0, f11_0_2, asI_i, asI4_i, asN_n, asL_l, asB_b, asE_nil, Bool.cond_decide, Bool.cond_not, if_pos c0, if_pos c1, if_neg c2]
    · have hb : bumpL o s2 c11 = o := by unfold bumpL; rw [if_pos c0, if_neg c1]
      rw [hb]
      simp -implicitDefEqProofs only [f11_0, f11_0_2, asI_i, asI4_i, asN_n, asL_l, asB_b, asE_nil, Bool.cond_decide, Bool.cond_not, if_pos c0, if_neg c1]
  · have hb : bumpL o s2 c11 = o := by unfold bumpL; rw [if_neg c0]
    rw [hb]
    simp -implicitDefEqProofs only [f11_0, f11_0_2, asI_i, asI4_i, asN_n, asL_l, asB_b, asE_nil, Bool.cond_decide, Bool.cond_not, if_neg c0]
theorem in_3 (n : Nat) (a i s0 s1 s2 s3 c0 c1 c2 c3 c5 c6 c7 c8 c9 c10 c11 c12 c13 c14 c15 c16 c17 c18 c19 c20 c21 c22 c23 c24 c25 c26 c27 c28 : Int) (h z o : List Int) (ho : o.length = 24) : f11_0 (3, [.n n, .i a, .i i, .i s0, .i s1, .i s2, .i s3, .l h, .l z, .l o, .i c0, .i c1, .i c2, .i c3, .i c5, .i c6, .i c7, .i c8, .i c9, .i c10, .i c11, .i c12, .i c13, .i c14, .i c15, .i c16, .i c17, .i c18, .i c19, .i c20, .i c21, .i c22, .i c23, .i c24, .i c25, .i c26, .i c27, .i c28]) = some (4, [.n n, .i a, .i i, .i s0, .i s1, .i s2, .i s3, .l h, .l z, .l (bumpL o s3 c12), .i c0, .i c1, .i c2, .i c3, .i c5, .i c6, .i c7, .i c8, .i c9, .i c10, .i c11, .i c12, .i c13, .i c14, .i c15, .i c16, .i c17, .i c18, .i c19, .i c20, .i c21, .i c22, .i c23, .i c24, .i c25, .i c26, .i c27, .i c28]) := by
  by_cases c0 : 0 ≤ s3
  · by_cases c1 : s3 ≤ 23
    · by_cases c2 : 0 < c12
      · have hb : bumpL o s3 c12 = o.set s3.toNat (IntKind.i64.wrap (o.getD s3.toNat 0 + 1)) := by unfold bumpL; rw [if_pos c0, if_pos c1, if_pos c2]
        have hg : o[s3.toNat]? = some (o.getD s3.toNat 0) := get_some (by omega)
        rw [hb]
        generalize o.getD s3.toNat 0 = v at *
        simp -implicitDefEqProofs only [f11_0, f11_0_3, asI_i, asI4_i, asN_n, asL_l, asB_b, asE_nil, Bool.cond_decide, Bool.cond_not, if_pos c0, if_pos c1, if_pos c2, if_pos (show 0 ≤ s3 ∧ s3 < 24 from ⟨c0, by omega⟩), hg, optK_some, if_pos (show s3.toNat < o.length by omega)]
      · have hb : bumpL o s3 c12 = o := by unfold bumpL; rw [if_pos c0, if_pos c1, if_neg c2]
        rw [hb]
        simp -implicitDefEqProofs only [f11_0, f11_0_3, asI_i, asI4_i, asN_n, asL_l, asB_b, asE_nil, Bool.cond_decide, Bool.cond_not, if_pos c0, if_pos c1, if_neg c2]
    · have hb : bumpL o s3 c12 = o := by unfold bumpL; rw [if_pos c0, if_neg c1]
      rw [hb]
      simp -implicitDefEqProofs only [f11_0, f11_0_3, asI_i, asI4_i, asN_n, asL_l, asB_b, asE_nil, Bool.cond_decide, Bool.cond_not, if_pos c0, if_neg c1]
  · have hb : bumpL o s3 c12 = o := by unfold bumpL; rw [if_neg c0]
    rw [hb]
    simp -implicitDefEqProofs only [f11_0, f11_0_3, asI_i, asI4_i, asN_n, asL_l, asB_b, asE_nil, Bool.cond_decide, Bool.cond_not, if_neg c0]
theorem in_ok (n : Nat) (a i s0 s1 s2 s3 c0 c1 c2 c3 c5 c6 c7 c8 c9 c10 c11 c12 c13 c14 c15 c16 c17 c18 c19 c20 c21 c22 c23 c24 c25 c26 c27 c28 : Int) (h z o : List Int) (ho : o.length = 24) : L11_0 (0, [.n n, .i a, .i i, .i s0, .i s1, .i s2, .i s3, .l h, .l z, .l o, .i c0, .i c1, .i c2, .i c3, .i c5, .i c6, .i c7, .i c8, .i c9, .i c10, .i c11, .i c12, .i c13, .i c14, .i c15, .i c16, .i c17, .i c18, .i c19, .i c20, .i c21, .i c22, .i c23, .i c24, .i c25, .i c26, .i c27, .i c28]) = some (0, [.n n, .i a, .i i, .l h, .l z, .l (bumpL (bumpL (bumpL (bumpL (o) s0 c9) s1 c10) s2 c11) s3 c12), .i c0, .i c1, .i c2, .i c3, .i c5, .i c6, .i c7, .i c8, .i c9, .i c10, .i c11, .i c12, .i c13, .i c14, .i c15, .i c16, .i c17, .i c18, .i c19, .i c20, .i c21, .i c22, .i c23, .i c24, .i c25, .i c26, .i c27, .i c28]) := by
  have l1 := (bump_len o s0 c9).trans ho
  have l2 := (bump_len (bumpL (o) s0 c9) s1 c10).trans l1
  have l3 := (bump_len (bumpL (bumpL (o) s0 c9) s1 c10) s2 c11).trans l2
  refine loopL_run (m := 5) (f := f11_0) (fun k => match k with | 0 => (0, [.n n, .i a, .i i, .i s0, .i s1, .i s2, .i s3, .l h, .l z, .l o, .i c0, .i c1, .i c2, .i c3, .i c5, .i c6, .i c7, .i c8, .i c9, .i c10, .i c11, .i c12, .i c13, .i c14, .i c15, .i c16, .i c17, .i c18, .i c19, .i c20, .i c21, .i c22, .i c23, .i c24, .i c25, .i c26, .i c27, .i c28]) | 1 => (1, [.n n, .i a, .i i, .i s0, .i s1, .i s2, .i s3, .l h, .l z, .l (bumpL (o) s0 c9), .i c0, .i c1, .i c2, .i c3, .i c5, .i c6, .i c7, .i c8, .i c9, .i c10, .i c11, .i c12, .i c13, .i c14, .i c15, .i c16, .i c17, .i c18, .i c19, .i c20, .i c21, .i c22, .i c23, .i c24, .i c25, .i c26, .i c27, .i c28]) | 2 => (2, [.n n, .i a, .i i, .i s0, .i s1, .i s2, .i s3, .l h, .l z, .l (bumpL (bumpL (o) s0 c9) s1 c10), .i c0, .i c1, .i c2, .i c3, .i c5, .i c6, .i c7, .i c8, .i c9, .i c10, .i c11, .i c12, .i c13, .i c14, .i c15, .i c16, .i c17, .i c18, .i c19, .i c20, .i c21, .i c22, .i c23, .i c24, .i c25, .i c26, .i c27, .i c28]) | 3 => (3, [.n n, .i a, .i i, .i s0, .i s1, .i s2, .i s3, .l h, .l z, .l (bumpL (bumpL (bumpL (o) s0 c9) s1 c10) s2 c11), .i c0, .i c1, .i c2, .i c3, .i c5, .i c6, .i c7, .i c8, .i c9, .i c10, .i c11, .i c12, .i c13, .i c14, .i c15, .i c16, .i c17, .i c18, .i c19, .i c20, .i c21, .i c22, .i c23, .i c24, .i c25, .i c26, .i c27, .i c28]) | _ => (4, [.n n, .i a, .i i, .i s0, .i s1, .i s2, .i s3, .l h, .l z, .l (bumpL (bumpL (bumpL (bumpL (o) s0 c9) s1 c10) s2 c11) s3 c12), .i c0, .i c1, .i c2, .i c3, .i c5, .i c6, .i c7, .i c8, .i c9, .i c10, .i c11, .i c12, .i c13, .i c14, .i c15, .i c16, .i c17, .i c18, .i c19, .i c20, .i c21, .i c22, .i c23, .i c24, .i c25, .i c26, .i c27, .i c28])) 4 (fun k hk => ?_) ?_ (by omega)
  · match k, hk with
    | 0, _ => exact ⟨in_0 n a i s0 s1 s2 s3 c0 c1 c2 c3 c5 c6 c7 c8 c9 c10 c11 c12 c13 c14 c15 c16 c17 c18 c19 c20 c21 c22 c23 c24 c25 c26 c27 c28 h z _ ho, (show 1 < 5 by omega)⟩
    | 1, _ => exact ⟨in_1 n a i s0 s1 s2 s3 c0 c1 c2 c3 c5 c6 c7 c8 c9 c10 c11 c12 c13 c14 c15 c16 c17 c18 c19 c20 c21 c22 c23 c24 c25 c26 c27 c28 h z _ l1, (show 2 < 5 by omega)⟩
    | 2, _ => exact ⟨in_2 n a i s0 s1 s2 s3 c0 c1 c2 c3 c5 c6 c7 c8 c9 c10 c11 c12 c13 c14 c15 c16 c17 c18 c19 c20 c21 c22 c23 c24 c25 c26 c27 c28 h z _ l2, (show 3 < 5 by omega)⟩
    | 3, _ => exact ⟨in_3 n a i s0 s1 s2 s3 c0 c1 c2 c3 c5 c6 c7 c8 c9 c10 c11 c12 c13 c14 c15 c16 c17 c18 c19 c20 c21 c22 c23 c24 c25 c26 c27 c28 h z _ l3, (show 4 < 5 by omega)⟩
  · simp -implicitDefEqProofs only [f11_0, f11_0_4, asI_i, asI4_i, asN_n, asL_l, asB_b, asE_nil, Bool.cond_decide, Bool.cond_not]

theorem cell_at {h : List Int} {i : Nat} (hl : i * 29 + 29 ≤ h.length) : h[i * 29]? = some (h.getD (i * 29 + 0) 0) ∧ h[i * 29 + 1]? = some (h.getD (i * 29 + 1) 0) ∧ h[i * 29 + 1 + 1]? = some (h.getD (i * 29 + 2) 0) ∧ h[i * 29 + 1 + 1 + 1]? = some (h.getD (i * 29 + 3) 0) ∧ h[i * 29 + 1 + 1 + 1 + 1]? = some (h.getD (i * 29 + 4) 0) ∧ h[i * 29 + 1 + 1 + 1 + 1 + 1]? = some (h.getD (i * 29 + 5) 0) ∧ h[i * 29 + 1 + 1 + 1 + 1 + 1 + 1]? = some (h.getD (i * 29 + 6) 0) ∧ h[i * 29 + 1 + 1 + 1 + 1 + 1 + 1 + 1]? = some (h.getD (i * 29 + 7) 0) ∧ h[i * 29 + 1 + 1 + 1 + 1 + 1 + 1 + 1 + 1]? = some (h.getD (i * 29 + 8) 0) ∧ h[i * 29 + 1 + 1 + 1 + 1 + 1 + 1 + 1 + 1 + 1]? = some (h.getD (i * 29 + 9) 0) ∧ h[i * 29 + 1 + 1 + 1 + 1 + 1 + 1 + 1 + 1 + 1 + 1]? = some (h.getD (i * 29 + 10) 0) ∧ h[i * 29 + 1 + 1 + 1 + 1 + 1 + 1 + 1 + 1 + 1 + 1 + 1]? = some (h.getD (i * 29 + 11) 0) ∧ h[i * 29 + 1 + 1 + 1 + 1 + 1 + 1 + 1 + 1 + 1 + 1 + 1 + 1]? = some (h.getD (i * 29 + 12) 0) ∧ h[i * 29 + 1 + 1 + 1 + 1 + 1 + 1 + 1 + 1 + 1 + 1 + 1 + 1 + 1]? = some (h.getD (i * 29 + 13) 0) ∧ h[i * 29 + 1 + 1 + 1 + 1 + 1 + 1 + 1 + 1 + 1 + 1 + 1 + 1 + 1 + 1]? = some (h.getD (i * 29 + 14) 0) ∧ h[i * 29 + 1 + 1 + 1 + 1 + 1 + 1 + 1 + 1 + 1 + 1 + 1 + 1 + 1 + 1 + 1]? = some (h.getD (i * 29 + 15) 0) ∧ h[i * 29 + 1 + 1 + 1 + 1 + 1 + 1 + 1 + 1 + 1 + 1 + 1 + 1 + 1 + 1 + 1 + 1]? = some (h.getD (i * 29 + 16) 0) ∧ h[i * 29 + 1 + 1 + 1 + 1 + 1 + 1 + 1 + 1 + 1 + 1 + 1 + 1 + 1 + 1 + 1 + 1 + 1]? = some (h.getD (i * 29 + 17) 0) ∧ h[i * 29 + 1 + 1 + 1 + 1 + 1 + 1 + 1 + 1 + 1 + 1 + 1 + 1 + 1 + 1 + 1 + 1 + 1 + 1]? = some (h.getD (i * 29 + 18) 0) ∧ h[i * 29 + 1 + 1 + 1 + 1 + 1 + 1 + 1 + 1 + 1 + 1 + 1 + 1 + 1 + 1 + 1 + 1 + 1 + 1 + 1]? = some (h.getD (i * 29 + 19) 0) ∧ h[i * 29 + 1 + 1 + 1 + 1 + 1 + 1 + 1 + 1 + 1 + 1 + 1 + 1 + 1 + 1 + 1 + 1 + 1 + 1 + 1 + 1]? = some (h.getD (i * 29 + 20) 0) ∧ h[i * 29 + 1 + 1 + 1 + 1 + 1 + 1 + 1 + 1 + 1 + 1 + 1 + 1 + 1 + 1 + 1 + 1 + 1 + 1 + 1 + 1 + 1]? = some (h.getD (i * 29 + 21) 0) ∧ h[i * 29 + 1 + 1 + 1 + 1 + 1 + 1 + 1 + 1 + 1 + 1 + 1 + 1 + 1 + 1 + 1 + 1 + 1 + 1 + 1 + 1 + 1 + 1]? = some (h.getD (i * 29 + 22) 0) ∧ h[i * 29 + 1 + 1 + 1 + 1 + 1 + 1 + 1 + 1 + 1 + 1 + 1 + 1 + 1 + 1 + 1 + 1 + 1 + 1 + 1 + 1 + 1 + 1 + 1]? = some (h.getD (i * 29 + 23) 0) ∧ h[i * 29 + 1 + 1 + 1 + 1 + 1 + 1 + 1 + 1 + 1 + 1 + 1 + 1 + 1 + 1 + 1 + 1 + 1 + 1 + 1 + 1 + 1 + 1 + 1 + 1]? = some (h.getD (i * 29 + 24) 0) ∧ h[i * 29 + 1 + 1 + 1 + 1 + 1 + 1 + 1 + 1 + 1 + 1 + 1 + 1 + 1 + 1 + 1 + 1 + 1 + 1 + 1 + 1 + 1 + 1 + 1 + 1 + 1]? = some (h.getD (i * 29 + 25) 0) ∧ h[i * 29 + 1 + 1 + 1 + 1 + 1 + 1 + 1 + 1 + 1 + 1 + 1 + 1 + 1 + 1 + 1 + 1 + 1 + 1 + 1 + 1 + 1 + 1 + 1 + 1 + 1 + 1]? = some (h.getD (i * 29 + 26) 0) ∧ h[i * 29 + 1 + 1 + 1 + 1 + 1 + 1 + 1 + 1 + 1 + 1 + 1 + 1 + 1 + 1 + 1 + 1 + 1 + 1 + 1 + 1 + 1 + 1 + 1 + 1 + 1 + 1 + 1]? = some (h.getD (i * 29 + 27) 0) ∧ h[i * 29 + 1 + 1 + 1 + 1 + 1 + 1 + 1 + 1 + 1 + 1 + 1 + 1 + 1 + 1 + 1 + 1 + 1 + 1 + 1 + 1 + 1 + 1 + 1 + 1 + 1 + 1 + 1 + 1]? = some (h.getD (i * 29 + 28) 0) :=
  ⟨get_some (i := i * 29 + 0) (by omega), get_some (i := i * 29 + 1) (by omega), get_some (i := i * 29 + 2) (by omega), get_some (i := i * 29 + 3) (by omega), get_some (i := i * 29 + 4) (by omega), get_some (i := i * 29 + 5) (by omega), get_some (i := i * 29 + 6) (by omega), get_some (i := i * 29 + 7) (by omega), get_some (i := i * 29 + 8) (by omega), get_some (i := i * 29 + 9) (by omega), get_some (i := i * 29 + 10) (by omega), get_some (i := i * 29 + 11) (by omega), get_some (i := i * 29 + 12) (by omega), get_some (i := i * 29 + 13) (by omega), get_some (i := i * 29 + 14) (by omega), get_some (i := i * 29 + 15) (by omega), get_some (i := i * 29 + 16) (by omega), get_some (i := i * 29 + 17) (by omega), get_some (i := i * 29 + 18) (by omega), get_some (i := i * 29 + 19) (by omega), get_some (i := i * 29 + 20) (by omega), get_some (i := i * 29 + 21) (by omega), get_some (i := i * 29 + 22) (by omega), get_some (i := i * 29 + 23) (by omega), get_some (i := i * 29 + 24) (by omega), get_some (i := i * 29 + 25) (by omega), get_some (i := i * 29 + 26) (by omega), get_some (i := i * 29 + 27) (by omega), get_some (i := i * 29 + 28) (by omega)⟩
theorem coarse_ok (n : Nat) (h : List Int) (hn : n ≤ 20) (hl : n * 29 ≤ h.length) : g11 (0, [.n n, .l h]) = some (0, [.l (hist h n 0), .l h]) := by
  have hz : hist h 0 0 = [0, 0, 0, 0, 0, 0, 0, 0, 0, 0, 0, 0, 0, 0, 0, 0, 0, 0, 0, 0, 0, 0, 0, 0] := rfl
  have hL : L11_1 (0, [.n n, .i n, .i 0, .l h, .l [0, 0, 0, 0, 0, 0, 0, 0, 0, 0, 0, 0, 0, 0, 0, 0, 0, 0, 0, 0, 0, 0, 0, 0], .l (hist h 0 0)]) = some (0, [.l h, .l [0, 0, 0, 0, 0, 0, 0, 0, 0, 0, 0, 0, 0, 0, 0, 0, 0, 0, 0, 0, 0, 0, 0, 0], .l (hist h n 0)]) := by
    refine loopL_run (m := 3) (f := f11_1) (fun k => (0, [.n n, .i n, .i k, .l h, .l [0, 0, 0, 0, 0, 0, 0, 0, 0, 0, 0, 0, 0, 0, 0, 0, 0, 0, 0, 0, 0, 0, 0, 0], .l (hist h k 0)])) n (fun k hk => ⟨?_, by show 0 < 3; omega⟩) ?_ (by omega)
    · have hlk : k * 29 + 29 ≤ h.length := by omega
      obtain ⟨g0, g1, g2, g3, g4, g5, g6, g7, g8, g9, g10, g11, g12, g13, g14, g15, g16, g17, g18, g19, g20, g21, g22, g23, g24, g25, g26, g27, g28⟩ := cell_at hlk
      have w2 : IntKind.i64.wrap ((k : Int) + 1) = ((k + 1 : Nat) : Int) := wrap_nat (n := k + 1) (by omega)
      have hin := fun s0 s1 s2 s3 c0 c1 c2 c3 c5 c6 c7 c8 c9 c10 c11 c12 c13 c14 c15 c16 c17 c18 c19 c20 c21 c22 c23 c24 c25 c26 c27 c28 => in_ok n n k s0 s1 s2 s3 c0 c1 c2 c3 c5 c6 c7 c8 c9 c10 c11 c12 c13 c14 c15 c16 c17 c18 c19 c20 c21 c22 c23 c24 c25 c26 c27 c28 h [0, 0, 0, 0, 0, 0, 0, 0, 0, 0, 0, 0, 0, 0, 0, 0, 0, 0, 0, 0, 0, 0, 0, 0] (hist h k 0) (hist_len h k 0)
      have e1 := bump_hist h k 0 (by omega) (by omega)
      have e2 := bump_hist h k 1 (by omega) (by omega)
      have e3 := bump_hist h k 2 (by omega) (by omega)
      have e4 := bump_hist h k 3 (by omega) (by omega)
      rw [hist_next] at e4
      rw [show (9 : Nat) + 0 = 9 from rfl, show (5 : Nat) + 0 = 5 from rfl] at e1
      rw [show (9 : Nat) + 1 = 10 from rfl, show (5 : Nat) + 1 = 6 from rfl] at e2
      rw [show (9 : Nat) + 2 = 11 from rfl, show (5 : Nat) + 2 = 7 from rfl] at e3
      rw [show (9 : Nat) + 3 = 12 from rfl, show (5 : Nat) + 3 = 8 from rfl] at e4
      generalize h.getD (k * 29 + 0) 0 = y0 at *
      generalize h.getD (k * 29 + 1) 0 = y1 at *
      generalize h.getD (k * 29 + 2) 0 = y2 at *
      generalize h.getD (k * 29 + 3) 0 = y3 at *
      generalize h.getD (k * 29 + 4) 0 = y4 at *
      generalize h.getD (k * 29 + 5) 0 = y5 at *
      generalize h.getD (k * 29 + 6) 0 = y6 at *
      generalize h.getD (k * 29 + 7) 0 = y7 at *
      generalize h.getD (k * 29 + 8) 0 = y8 at *
      generalize h.getD (k * 29 + 9) 0 = y9 at *
      generalize h.getD (k * 29 + 10) 0 = y10 at *
      generalize h.getD (k * 29 + 11) 0 = y11 at *
      generalize h.getD (k * 29 + 12) 0 = y12 at *
      generalize h.getD (k * 29 + 13) 0 = y13 at *
      generalize h.getD (k * 29 + 14) 0 = y14 at *
      generalize h.getD (k * 29 + 15) 0 = y15 at *
      generalize h.getD (k * 29 + 16) 0 = y16 at *
      generalize h.getD (k * 29 + 17) 0 = y17 at *
      generalize h.getD (k * 29 + 18) 0 = y18 at *
      generalize h.getD (k * 29 + 19) 0 = y19 at *
      generalize h.getD (k * 29 + 20) 0 = y20 at *
      generalize h.getD (k * 29 + 21) 0 = y21 at *
      generalize h.getD (k * 29 + 22) 0 = y22 at *
      generalize h.getD (k * 29 + 23) 0 = y23 at *
      generalize h.getD (k * 29 + 24) 0 = y24 at *
      generalize h.getD (k * 29 + 25) 0 = y25 at *
      generalize h.getD (k * 29 + 26) 0 = y26 at *
      generalize h.getD (k * 29 + 27) 0 = y27 at *
      generalize h.getD (k * 29 + 28) 0 = y28 at *
      simp -implicitDefEqProofs only [f11_1, f11_1_0, asI_i, asI4_i, asN_n, asL_l, asB_b, asE_nil, Bool.cond_decide, Bool.cond_not, if_pos (show (k : Int) < n by omega), if_pos (show (0 : Int) ≤ k ∧ (k : Int) < n by omega), Int.toNat_natCast, if_pos hlk, if_pos (show k * 29 % 29 = 0 from Nat.mul_mod_left k 29), g0, g1, g2, g3, g4, g5, g6, g7, g8, g9, g10, g11, g12, g13, g14, g15, g16, g17, g18, g19, g20, g21, g22, g23, g24, g25, g26, g27, g28, optK_some, hin, altK_0, w2, e1, e2, e3, e4]
    · simp -implicitDefEqProofs only [f11_1, f11_1_0, asI_i, asI4_i, asN_n, asL_l, asB_b, asE_nil, Bool.cond_decide, Bool.cond_not, if_neg (Int.lt_irrefl _)]
  rw [hz] at hL
  have t1 : List.take 24 (hist h n 0) = hist h n 0 := List.take_of_length_le (by rw [hist_len]; omega)
  have t2 : List.drop (0 + 24) ([0, 0, 0, 0, 0, 0, 0, 0, 0, 0, 0, 0, 0, 0, 0, 0, 0, 0, 0, 0, 0, 0, 0, 0] : List Int) = [] := rfl
  have t3 : List.length ([0, 0, 0, 0, 0, 0, 0, 0, 0, 0, 0, 0, 0, 0, 0, 0, 0, 0, 0, 0, 0, 0, 0, 0] : List Int) = 24 := rfl
  simp -implicitDefEqProofs only [g11, g11_0, asI_i, asI4_i, asN_n, asL_l, asB_b, asE_nil, Bool.cond_decide, Bool.cond_not, hL, altK_0, hist_len, t1, t2, t3, List.append_nil, if_pos (Nat.le_refl 24), if_pos (show 24 = 24 from rfl), if_pos (show 0 + 24 ≤ 24 by omega), if_true]

theorem inner_ok (n : Nat) (s c : Int) (i : Nat) (h out : List Int) (hi : i < n) (hn : n ≤ 20) (hl : n * 29 ≤ h.length) (hc : 0 ≤ c) (hc2 : c ≤ 100) : L4_0 (0, [.n n, .i s, .i c, .i i, .l h, .l out]) = some (0, [.n n, .i s, .i (c + part h s i 4), .i i, .l h, .l out]) := by
  have hb := part_b h s i
  have hL := loopL_run (m := 7) (f := f4_0) (j := 0) (r := [.n n, .i s, .i (c + part h s i 4), .i i, .l h, .l out]) (fun k => ((match k with | 0 => 0 | 1 => 3 | 2 => 4 | 3 => 5 | _ => 6), [.n n, .i s, .i (c + part h s i k), .i i, .l h, .l out])) 4 (fun k hk => ?_) ?_ (by omega)
  · rw [show part h s i 0 = 0 from rfl, Int.add_zero] at hL
    exact hL
  · refine ⟨?_, ?_⟩
    · have h5 : h[k + (i * 29 + 5)]? = some (h.getD (i * 29 + (5 + k)) 0) := by rw [show k + (i * 29 + 5) = i * 29 + (5 + k) by omega]; exact get_some (by omega)
      have h9 : h[k + (i * 29 + 9)]? = some (h.getD (i * 29 + (9 + k)) 0) := by rw [show k + (i * 29 + 9) = i * 29 + (9 + k) by omega]; exact get_some (by omega)
      have m5 : (k + (i * 29 + 5)) % 29 = 5 + k := by omega
      have m9 : (k + (i * 29 + 9)) % 29 = 9 + k := by omega
      have hp : part h s i (k + 1) = part h s i k + hit h s i k := rfl
      have hbk := hb k
      have w2 : IntKind.i64.wrap (c + part h s i k + 1) = c + part h s i k + 1 := wrap64 (by omega) (by omega)
      simp -implicitDefEqProofs only [hp]
      unfold hit
      generalize part h s i k = q at *
      generalize h.getD (i * 29 + (5 + k)) 0 = x at *
      generalize h.getD (i * 29 + (9 + k)) 0 = w at *
      have i1 : (0 : Int) ≤ i ∧ (i : Int) < n := by omega
      by_cases e : x = s
      · by_cases e2 : 0 < w
        · match k, hk with
          | 0, _ => simp -implicitDefEqProofs only [f4_0, f4_0_0, asI_i, asI4_i, asN_n, asL_l, asB_b, asE_nil, Bool.cond_decide, Bool.cond_not, if_pos i1, Int.toNat_natCast, h5, optK_some, m5, if_neg (show ¬ 5 + 0 < 4 by omega), if_neg (show ¬ 5 + 0 < 5 by omega), if_pos e, h9, m9, if_neg (show ¬ 9 + 0 < 4 by omega), if_neg (show ¬ 9 + 0 < 5 by omega), if_pos e2, if_pos (show x = s ∧ 0 < w from ⟨e, e2⟩), w2, ← Int.add_assoc]
          | 1, _ => simp -implicitDefEqProofs only [f4_0, f4_0_3, asI_i, asI4_i, asN_n, asL_l, asB_b, asE_nil, Bool.cond_decide, Bool.cond_not, if_pos i1, Int.toNat_natCast, h5, optK_some, m5, if_neg (show ¬ 5 + 1 < 4 by omega), if_neg (show ¬ 5 + 1 < 5 by omega), if_pos e, h9, m9, if_neg (show ¬ 9 + 1 < 4 by omega), if_neg (show ¬ 9 + 1 < 5 by omega), if_pos e2, if_pos (show x = s ∧ 0 < w from ⟨e, e2⟩), w2, ← Int.add_assoc]
          | 2, _ => simp -implicitDefEqProofs only [f4_0, f4_0_4, asI_i, asI4_i, asN_n, asL_l, asB_b, asE_nil, Bool.cond_decide, Bool.cond_not, if_pos i1, Int.toNat_natCast, h5, optK_some, m5, if_neg (show ¬ 5 + 2 < 4 by omega), if_neg (show ¬ 5 + 2 < 5 by omega), if_pos e, h9, m9, if_neg (show ¬ 9 + 2 < 4 by omega), if_neg (show ¬ 9 + 2 < 5 by omega), if_pos e2, if_pos (show x = s ∧ 0 < w from ⟨e, e2⟩), w2, ← Int.add_assoc]
          | 3, _ => simp -implicitDefEqProofs only [f4_0, f4_0_5, asI_i, asI4_i, asN_n, asL_l, asB_b, asE_nil, Bool.cond_decide, Bool.cond_not, if_pos i1, Int.toNat_natCast, h5, optK_some, m5, if_neg (show ¬ 5 + 3 < 4 by omega), if_neg (show ¬ 5 + 3 < 5 by omega), if_pos e, h9, m9, if_neg (show ¬ 9 + 3 < 4 by omega), if_neg (show ¬ 9 + 3 < 5 by omega), if_pos e2, if_pos (show x = s ∧ 0 < w from ⟨e, e2⟩), w2, ← Int.add_assoc]
        · match k, hk with
          | 0, _ => simp -implicitDefEqProofs only [f4_0, f4_0_0, asI_i, asI4_i, asN_n, asL_l, asB_b, asE_nil, Bool.cond_decide, Bool.cond_not, if_pos i1, Int.toNat_natCast, h5, optK_some, m5, if_neg (show ¬ 5 + 0 < 4 by omega), if_neg (show ¬ 5 + 0 < 5 by omega), if_pos e, h9, m9, if_neg (show ¬ 9 + 0 < 4 by omega), if_neg (show ¬ 9 + 0 < 5 by omega), if_neg e2, if_neg (show ¬ (x = s ∧ 0 < w) from fun a => e2 a.2), Int.add_zero]
          | 1, _ => simp -implicitDefEqProofs only [f4_0, f4_0_3, asI_i, asI4_i, asN_n, asL_l, asB_b, asE_nil, Bool.cond_decide, Bool.cond_not, if_pos i1, Int.toNat_natCast, h5, optK_some, m5, if_neg (show ¬ 5 + 1 < 4 by omega), if_neg (show ¬ 5 + 1 < 5 by omega), if_pos e, h9, m9, if_neg (show ¬ 9 + 1 < 4 by omega), if_neg (show ¬ 9 + 1 < 5 by omega), if_neg e2, if_neg (show ¬ (x = s ∧ 0 < w) from fun a => e2 a.2), Int.add_zero]
          | 2, _ => simp -implicitDefEqProofs only [f4_0, f4_0_4, asI_i, asI4_i, asN_n, asL_l, asB_b, asE_nil, Bool.cond_decide, Bool.cond_not, if_pos i1, Int.toNat_natCast, h5, optK_some, m5, if_neg (show ¬ 5 + 2 < 4 by omega), if_neg (show ¬ 5 + 2 < 5 by omega), if_pos e, h9, m9, if_neg (show ¬ 9 + 2 < 4 by omega), if_neg (show ¬ 9 + 2 < 5 by omega), if_neg e2, if_neg (show ¬ (x = s ∧ 0 < w) from fun a => e2 a.2), Int.add_zero]
          | 3, _ => simp -implicitDefEqProofs only [f4_0, f4_0_5, asI_i, asI4_i, asN_n, asL_l, asB_b, asE_nil, Bool.cond_decide, Bool.cond_not, if_pos i1, Int.toNat_natCast, h5, optK_some, m5, if_neg (show ¬ 5 + 3 < 4 by omega), if_neg (show ¬ 5 + 3 < 5 by omega), if_pos e, h9, m9, if_neg (show ¬ 9 + 3 < 4 by omega), if_neg (show ¬ 9 + 3 < 5 by omega), if_neg e2, if_neg (show ¬ (x = s ∧ 0 < w) from fun a => e2 a.2), Int.add_zero]
      · match k, hk with
        | 0, _ => simp -implicitDefEqProofs only [f4_0, f4_0_0, asI_i, asI4_i, asN_n, asL_l, asB_b, asE_nil, Bool.cond_decide, Bool.cond_not, if_pos i1, Int.toNat_natCast, h5, optK_some, m5, if_neg (show ¬ 5 + 0 < 4 by omega), if_neg (show ¬ 5 + 0 < 5 by omega), if_neg e, if_neg (show ¬ (x = s ∧ 0 < w) from fun a => e a.1), Int.add_zero]
        | 1, _ => simp -implicitDefEqProofs only [f4_0, f4_0_3, asI_i, asI4_i, asN_n, asL_l, asB_b, asE_nil, Bool.cond_decide, Bool.cond_not, if_pos i1, Int.toNat_natCast, h5, optK_some, m5, if_neg (show ¬ 5 + 1 < 4 by omega), if_neg (show ¬ 5 + 1 < 5 by omega), if_neg e, if_neg (show ¬ (x = s ∧ 0 < w) from fun a => e a.1), Int.add_zero]
        | 2, _ => simp -implicitDefEqProofs only [f4_0, f4_0_4, asI_i, asI4_i, asN_n, asL_l, asB_b, asE_nil, Bool.cond_decide, Bool.cond_not, if_pos i1, Int.toNat_natCast, h5, optK_some, m5, if_neg (show ¬ 5 + 2 < 4 by omega), if_neg (show ¬ 5 + 2 < 5 by omega), if_neg e, if_neg (show ¬ (x = s ∧ 0 < w) from fun a => e a.1), Int.add_zero]
        | 3, _ => simp -implicitDefEqProofs only [f4_0, f4_0_5, asI_i, asI4_i, asN_n, asL_l, asB_b, asE_nil, Bool.cond_decide, Bool.cond_not, if_pos i1, Int.toNat_natCast, h5, optK_some, m5, if_neg (show ¬ 5 + 3 < 4 by omega), if_neg (show ¬ 5 + 3 < 5 by omega), if_neg e, if_neg (show ¬ (x = s ∧ 0 < w) from fun a => e a.1), Int.add_zero]
    · match k, hk with
      | 0, _ => show 3 < 7; omega
      | 1, _ => show 4 < 7; omega
      | 2, _ => show 5 < 7; omega
      | 3, _ => show 6 < 7; omega
  · simp -implicitDefEqProofs only [f4_0, f4_0_6, asI_i, asI4_i, asN_n, asL_l, asB_b, asE_nil, Bool.cond_decide, Bool.cond_not]
theorem count_ok (n : Nat) (s : Int) (h out : List Int) (hn : n ≤ 20) (hl : n * 29 ≤ h.length) : L4_1 (0, [.n n, .i s, .i 0, .i 0, .l h, .l out]) = some (0, [.n n, .i s, .i (cnt h s n), .l h, .l out]) := by
  refine loopL_run (m := 3) (f := f4_1) (fun k => (0, [.n n, .i s, .i (cnt h s k), .i k, .l h, .l out])) n (fun k hk => ⟨?_, by show 0 < 3; omega⟩) ?_ (by omega)
  · have hc := cnt_b h s k
    have hi := inner_ok n s (cnt h s k) k h out hk hn hl (by omega) (by omega)
    have w2 : IntKind.i64.wrap ((k : Int) + 1) = ((k + 1 : Nat) : Int) := wrap_nat (n := k + 1) (by omega)
    have hp : cnt h s (k + 1) = cnt h s k + part h s k 4 := rfl
    simp -implicitDefEqProofs only [f4_1, f4_1_0, asI_i, asI4_i, asN_n, asL_l, asB_b, asE_nil, Bool.cond_decide, Bool.cond_not, if_pos (show (k : Int) < n by omega), hi, altK_0, w2, hp]
  · simp -implicitDefEqProofs only [f4_1, f4_1_0, asI_i, asI4_i, asN_n, asL_l, asB_b, asE_nil, Bool.cond_decide, Bool.cond_not, if_neg (Int.lt_irrefl _)]
theorem scales_ok (n : Nat) (h : List Int) (hn : n ≤ 20) (hl : n * 29 ≤ h.length) : L4_2 (0, [.n n, .i 0, .l h, .l (hist h n 0)]) = some (0, [.l h, .l (hist h n 0)]) := by
  refine loopL_run (m := 3) (f := f4_2) (fun k => (0, [.n n, .i k, .l h, .l (hist h n 0)])) 24 (fun k hk => ⟨?_, by show 0 < 3; omega⟩) ?_ (by omega)
  · have hc := count_ok n k h (hist h n 0) hn hl
    have w2 : IntKind.i64.wrap ((k : Int) + 1) = ((k + 1 : Nat) : Int) := wrap_nat (n := k + 1) (by omega)
    have hg : (hist h n 0)[k]? = some (cnt h k n) := by rw [hist_get h n 0 k hk]; exact congrArg some (Int.add_zero _)
    have hne : ∀ x : Int, (x ≠ x) = False := fun x => eq_false (fun h => h rfl)
    simp -implicitDefEqProofs only [f4_2, f4_2_0, asI_i, asI4_i, asN_n, asL_l, asB_b, asE_nil, Bool.cond_decide, Bool.cond_not, if_pos (show (k : Int) < 24 by omega), hc, altK_0, if_pos (show (0 : Int) ≤ k ∧ (k : Int) < 24 by omega), Int.toNat_natCast, hg, optK_some, hne, if_false, w2]
  · simp -implicitDefEqProofs only [f4_2, f4_2_0, asI_i, asI4_i, asN_n, asL_l, asB_b, asE_nil, Bool.cond_decide, Bool.cond_not, if_neg (show ¬ ((24 : Nat) : Int) < 24 by omega)]

theorem law_C (n : Nat) (h : List Int) (hl : h.length = n * 29) : g4 (0, [.n n, .l h]) = some (0, [.b true, .l h]) := by
  have t2 : List.drop (0 + 24) ([0, 0, 0, 0, 0, 0, 0, 0, 0, 0, 0, 0, 0, 0, 0, 0, 0, 0, 0, 0, 0, 0, 0, 0] : List Int) = [] := rfl
  by_cases c : n ≤ 20
  · have h1 := coarse_ok n h c (by omega)
    have h2 := scales_ok n h c (by omega)
    simp -implicitDefEqProofs only [g4, g4_0, asI_i, asI4_i, asN_n, asL_l, asB_b, asE_nil, Bool.cond_decide, Bool.cond_not, if_neg (show ¬ (20 : Int) < n by omega), h1, altK_0, hist_len, t2, List.append_nil, if_pos (show 0 + 24 ≤ 24 by omega), if_true, h2, awakeL_ok]
  · have h1 := coarse_ok 20 h (by omega) (by omega)
    have h2 := scales_ok 20 h (by omega) (by omega)
    simp -implicitDefEqProofs only [g4, g4_0, asI_i, asI4_i, asN_n, asL_l, asB_b, asE_nil, Bool.cond_decide, Bool.cond_not, if_pos (show (20 : Int) < n by omega), if_pos (show (0 : Int) ≤ 20 ∧ (20 : Int) ≤ n by omega), h1, altK_0, hist_len, t2, List.append_nil, if_pos (show 0 + 24 ≤ 24 by omega), if_true, h2, awakeL_ok]
theorem ev_C (n : Nat) (h : List Int) (hl : h.length = n * 29) : ∃ d, evF tab d 4 [.slice 0 0 n 29] [⟨false, .mix [.int .i64, .int .i64, .int .i64, .int .i64, .any, .int .i64, .int .i64, .int .i64, .int .i64, .int .i64, .int .i64, .int .i64, .int .i64, .int .i64, .int .i64, .int .i64, .int .i64, .int .i64, .int .i64, .int .i64, .int .i64, .int .i64, .int .i64, .int .i64, .int .i64, .int .i64, .int .i64, .int .i64, .int .i64] h⟩] = some (.bool true, [⟨false, .mix [.int .i64, .int .i64, .int .i64, .int .i64, .any, .int .i64, .int .i64, .int .i64, .int .i64, .int .i64, .int .i64, .int .i64, .int .i64, .int .i64, .int .i64, .int .i64, .int .i64, .int .i64, .int .i64, .int .i64, .int .i64, .int .i64, .int .i64, .int .i64, .int .i64, .int .i64, .int .i64, .int .i64, .int .i64] h⟩], []) :=
  ⟨_, (ok4 0).ret (i := 0) (ls := [.n n, .l h]) (j := 0) (r := [.b true, .l h]) (law_C n h hl) rfl rfl rfl rfl⟩
theorem ev_Cn : ∃ d, evF tab d 4 [.nils] [] = some (.bool true, [], []) := ⟨30, by kernel_rfl⟩
theorem ev_Cd : ∃ d, evF tab d 4 [.slice 0 0 0 29] [⟨true, .unk⟩] = some (.bool true, [⟨true, .unk⟩], []) := ⟨30, by kernel_rfl⟩
end Go.Proofs.Ytmghafpbaigkaaa
