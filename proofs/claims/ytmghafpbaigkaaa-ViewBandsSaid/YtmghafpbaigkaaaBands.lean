/-
  The law of how loud a spectrum's bands are. Conditions: none.
-/
import Derived.Test.YtmghafpbaigkaaaPow
namespace Go.Proofs.Ytmghafpbaigkaaa
open Go Go.Sx
set_option maxRecDepth 100000
set_option linter.unusedVariables false
attribute [local simp] asI_i asB_b asL_l asN_n asS_s asE_nil altK_none altK_0 altK_1 altK_2 altK_3 optK_some optK_none Bool.cond_decide Bool.cond_not Int.toNat_natCast
set_option linter.unusedSimpArgs false
theorem sq_range (d : Int) : 0 ≤ holdV d * holdV d ∧ holdV d * holdV d ≤ 4611686014132420609 := by
  have h := holdV_range d
  generalize holdV d = x at *
  have h1 : 0 ≤ x * x := Int.mul_nonneg h.1 h.1
  have h2 : x * x ≤ 2147483647 * 2147483647 := Int.mul_le_mul h.2 h.2 h.1 (by omega)
  omega
def powS (b : List Int) : Nat → Int
  | 0 => 0
  | k + 1 => addV (powS b k) (holdV (b.getD k 0) * holdV (b.getD k 0))
theorem powS_range (b : List Int) : ∀ k, 0 ≤ powS b k ∧ powS b k ≤ 9223372036854775807
  | 0 => ⟨Int.le_refl _, by show (0 : Int) ≤ _; omega⟩
  | k + 1 => addV_range (powS_range b k) (by have := sq_range (b.getD k 0); omega)
def bm (b : List Int) (j : Nat) : Nat → Int
  | 0 => 0
  | m + 1 => if bm b j m < wd (absV (b.getD (4 * j + m) 0)) then wd (absV (b.getD (4 * j + m) 0)) else bm b j m
theorem absV_range {d : Int} (h : In64 d) : 0 ≤ absV d ∧ absV d ≤ 9223372036854775807 := by
  unfold In64 at h; unfold absV; repeat' split
  all_goals omega
theorem power18 (b : List Int) (hb : b.length = 16) (hw : ∀ k, k < 16 → In64 (b.getD k 0)) : g18 (0, [.l b]) = some (0, [.i (powS b 16)]) := by
  have t16 : List.take 16 b = b := List.take_of_length_le (by omega)
  have hl : L18_0 (0, [.i 0, .l b, .i 0, .l b]) = some (0, [.i (powS b 16), .l b]) := by
    refine loop1_run (f := f18_0) (fun k => [.i (powS b k), .l b, .i k, .l b]) 16 (fun k hk => ?_) (by simp [f18_0, f18_0_0]) (by omega)
    have hx := get_some (l := b) (i := k) (by omega)
    have hd := hw k hk
    have hp := powS_range b k
    have hq := sq_range (b.getD k 0)
    have e1 : powS b (k + 1) = addV (powS b k) (holdV (b.getD k 0) * holdV (b.getD k 0)) := rfl
    rw [e1]
    generalize b.getD k 0 = d at *
    have h1 : (k : Int) < 16 := by omega
    have h0 : (0 : Int) ≤ k ∧ (k : Int) < 16 := by omega
    have w2 : IntKind.i64.wrap ((k : Int) + 1) = ((k + 1 : Nat) : Int) := wrap_nat (n := k + 1) (by omega)
    have w3 : IntKind.i64.wrap (holdV d * holdV d) = holdV d * holdV d := wrap64 (by omega) (by omega)
    have s := sum24 (powS b k) (holdV d * holdV d) hp (by omega)
    simp -implicitDefEqProofs only [f18_0, f18_0_0, asI_i, asL_l, asE_nil, Bool.cond_decide, if_pos h1, if_pos h0, Int.toNat_natCast, hx, optK_some, w2, abs17 d hd, altK_0, clamp23 d hd, w3, s]
  simp -implicitDefEqProofs only [g18, g18_0, asI_i, asL_l, asE_nil, if_pos (show 16 ≤ b.length by omega), t16, hl, altK_0]
def bandsL (b : List Int) (k : Nat) : List Int := [bm b 0 (min 4 k), bm b 1 (min 4 (k - 4)), bm b 2 (min 4 (k - 8)), bm b 3 (min 4 (k - 12))]
theorem bands_get (b : List Int) {j m : Nat} (hj : j < 4) (hm : m < 4) : (bandsL b (4 * j + m))[j]? = some (bm b j m) := by
  match j, hj with
  | 0, _ => simp only [bandsL, List.getElem?_cons_zero]; congr 2; omega
  | 1, _ => simp only [bandsL, List.getElem?_cons_succ, List.getElem?_cons_zero]; congr 2; omega
  | 2, _ => simp only [bandsL, List.getElem?_cons_succ, List.getElem?_cons_zero]; congr 2; omega
  | 3, _ => simp only [bandsL, List.getElem?_cons_succ, List.getElem?_cons_zero]; congr 2; omega
theorem bands_set (b : List Int) {j m : Nat} (hj : j < 4) (hm : m < 4) : (bandsL b (4 * j + m)).set j (bm b j (m + 1)) = bandsL b (4 * j + m + 1) := by
  match j, hj with
  | 0, _ =>
    have e0 : bandsL b (4 * 0 + m) = [bm b 0 m, bm b 1 0, bm b 2 0, bm b 3 0] := by rw [bandsL, show min 4 (4 * 0 + m) = m by omega, show min 4 (4 * 0 + m - 4) = 0 by omega, show min 4 (4 * 0 + m - 8) = 0 by omega, show min 4 (4 * 0 + m - 12) = 0 by omega]
    have e1 : bandsL b (4 * 0 + m + 1) = [bm b 0 (m + 1), bm b 1 0, bm b 2 0, bm b 3 0] := by rw [bandsL, show min 4 (4 * 0 + m + 1) = m + 1 by omega, show min 4 (4 * 0 + m + 1 - 4) = 0 by omega, show min 4 (4 * 0 + m + 1 - 8) = 0 by omega, show min 4 (4 * 0 + m + 1 - 12) = 0 by omega]
    rw [e0, e1]
    simp only [List.set_cons_zero]
  | 1, _ =>
    have e0 : bandsL b (4 * 1 + m) = [bm b 0 4, bm b 1 m, bm b 2 0, bm b 3 0] := by rw [bandsL, show min 4 (4 * 1 + m) = 4 by omega, show min 4 (4 * 1 + m - 4) = m by omega, show min 4 (4 * 1 + m - 8) = 0 by omega, show min 4 (4 * 1 + m - 12) = 0 by omega]
    have e1 : bandsL b (4 * 1 + m + 1) = [bm b 0 4, bm b 1 (m + 1), bm b 2 0, bm b 3 0] := by rw [bandsL, show min 4 (4 * 1 + m + 1) = 4 by omega, show min 4 (4 * 1 + m + 1 - 4) = m + 1 by omega, show min 4 (4 * 1 + m + 1 - 8) = 0 by omega, show min 4 (4 * 1 + m + 1 - 12) = 0 by omega]
    rw [e0, e1]
    simp only [List.set_cons_succ, List.set_cons_zero]
  | 2, _ =>
    have e0 : bandsL b (4 * 2 + m) = [bm b 0 4, bm b 1 4, bm b 2 m, bm b 3 0] := by rw [bandsL, show min 4 (4 * 2 + m) = 4 by omega, show min 4 (4 * 2 + m - 4) = 4 by omega, show min 4 (4 * 2 + m - 8) = m by omega, show min 4 (4 * 2 + m - 12) = 0 by omega]
    have e1 : bandsL b (4 * 2 + m + 1) = [bm b 0 4, bm b 1 4, bm b 2 (m + 1), bm b 3 0] := by rw [bandsL, show min 4 (4 * 2 + m + 1) = 4 by omega, show min 4 (4 * 2 + m + 1 - 4) = 4 by omega, show min 4 (4 * 2 + m + 1 - 8) = m + 1 by omega, show min 4 (4 * 2 + m + 1 - 12) = 0 by omega]
    rw [e0, e1]
    simp only [List.set_cons_succ, List.set_cons_zero]
  | 3, _ =>
    have e0 : bandsL b (4 * 3 + m) = [bm b 0 4, bm b 1 4, bm b 2 4, bm b 3 m] := by rw [bandsL, show min 4 (4 * 3 + m) = 4 by omega, show min 4 (4 * 3 + m - 4) = 4 by omega, show min 4 (4 * 3 + m - 8) = 4 by omega, show min 4 (4 * 3 + m - 12) = m by omega]
    have e1 : bandsL b (4 * 3 + m + 1) = [bm b 0 4, bm b 1 4, bm b 2 4, bm b 3 (m + 1)] := by rw [bandsL, show min 4 (4 * 3 + m + 1) = 4 by omega, show min 4 (4 * 3 + m + 1 - 4) = 4 by omega, show min 4 (4 * 3 + m + 1 - 8) = 4 by omega, show min 4 (4 * 3 + m + 1 - 12) = m + 1 by omega]
    rw [e0, e1]
    simp only [List.set_cons_succ, List.set_cons_zero]
theorem bands15 (b : List Int) (hb : b.length = 16) (hw : ∀ k, k < 16 → In64 (b.getD k 0)) : g15 (0, [.l b]) = some (0, [.l (bandsL b 16)]) := by
  have t16 : List.take 16 b = b := List.take_of_length_le (by omega)
  have hl : L15_0 (0, [.l b, .i 0, .l b, .i 0, .i 0, .i 0, .i 0, .l [0, 0, 0, 0]]) = some (0, [.l b, .i 0, .i 0, .i 0, .i 0, .l (bandsL b 16)]) := by
    have main := loop1_run (f := f15_0) (fun k => [.l b, .i k, .l b, .i 0, .i 0, .i 0, .i 0, .l (bandsL b k)]) 16 (j := 0) (r := [.l b, .i 0, .i 0, .i 0, .i 0, .l (bandsL b 16)]) (fun k hk => ?_) ?_ (by omega)
    · exact main
    · have hx := get_some (l := b) (i := k) (by omega)
      have hd := hw k hk
      obtain ⟨j, m, hj, hm, hk2⟩ : ∃ j m, j < 4 ∧ m < 4 ∧ k = 4 * j + m := ⟨k / 4, k % 4, by omega, by omega, by omega⟩
      have hband : g25 (0, [.i k]) = some (0, [.i j]) := by
        have e : IntKind.i64.wrap (Int.tdiv k 4) = j := by
          rw [show Int.tdiv (k : Int) 4 = ((k / 4 : Nat) : Int) from rfl, wrap64 (by omega) (by omega)]; omega
        simp -implicitDefEqProofs only [g25, g25_0, asI_i, asE_nil, Bool.cond_decide, if_neg (show ¬ (k : Int) < 0 by omega), if_neg (show ¬ (16 : Int) ≤ k by omega), e]
      have hg := bands_get b hj hm
      have hs := bands_set b hj hm
      have e1 : bm b j (m + 1) = if wd (absV (b.getD k 0)) > bm b j m then wd (absV (b.getD k 0)) else bm b j m := by rw [hk2]; rfl
      rw [← hk2] at hg hs
      rw [e1] at hs
      generalize b.getD k 0 = d at *
      have h1 : (k : Int) < 16 := by omega
      have h0 : (0 : Int) ≤ k ∧ (k : Int) < 16 := by omega
      have j0 : (0 : Int) ≤ j ∧ (j : Int) < 4 := by omega
      have w2 : IntKind.i64.wrap ((k : Int) + 1) = ((k + 1 : Nat) : Int) := wrap_nat (n := k + 1) (by omega)
      have hlen : j < (bandsL b k).length := by show j < 4; exact hj
      simp -implicitDefEqProofs only [f15_0, f15_0_0, asI_i, asL_l, asE_nil, Bool.cond_decide, if_pos h1, if_pos h0, Int.toNat_natCast, hx, optK_some, w2, hband, altK_0, if_pos j0, hg, abs17 d hd, wd_ok _ (absV_range hd), if_pos hlen, hs]
    · simp -implicitDefEqProofs only [f15_0, f15_0_0, asI_i, asL_l, asE_nil, Bool.cond_decide]
      rfl
  have t4 : List.take 4 (bandsL b 16) = bandsL b 16 := rfl
  have l4 : (bandsL b 16).length = 4 := rfl
  have d4 : List.drop 4 ([0, 0, 0, 0] : List Int) = [] := rfl
  have z4 : ([0, 0, 0, 0] : List Int).length = 4 := rfl
  simp -implicitDefEqProofs only [g15, g15_0, asL_l, asI_i, asE_nil, if_pos (show 16 ≤ b.length by omega), t16, hl, altK_0, l4, t4, d4, z4, Nat.zero_add, List.append_nil, Nat.le_refl, if_true]
theorem inner6 (b W : List Int) (hb : b.length = 16) (hw : ∀ k, k < 16 → In64 (b.getD k 0)) (j : Nat) (hj : j < 4) : L6_0 (0, [.i (powS b (4 * j)), .i j, .i 0, .i (4 * j : Nat), .l b, .l W]) = some (0, [.i (powS b (4 * j + 4)), .i j, .i (bm b j 4), .l b, .l W]) := by
  have w4 : IntKind.i64.wrap (4 * (j : Int)) = ((4 * j : Nat) : Int) := by rw [wrap64 (by omega) (by omega)]; omega
  have w3 : IntKind.i64.wrap (((4 * j : Nat) : Int) + 4) = ((4 * j + 4 : Nat) : Int) := wrap_nat (n := 4 * j + 4) (by omega)
  have main := loop1_run (f := f6_0) (fun m => [.i (powS b (4 * j + m)), .i j, .i (bm b j m), .i (4 * j + m : Nat), .l b, .l W]) 4 (j := 0) (r := [.i (powS b (4 * j + 4)), .i j, .i (bm b j 4), .l b, .l W]) (fun m hm => ?_) ?_ (by omega)
  · exact main
  · have hx := get_some (l := b) (i := 4 * j + m) (by omega)
    have hd := hw (4 * j + m) (by omega)
    have hp := powS_range b (4 * j + m)
    have hq := sq_range (b.getD (4 * j + m) 0)
    have e1 : powS b (4 * j + (m + 1)) = addV (powS b (4 * j + m)) (holdV (b.getD (4 * j + m) 0) * holdV (b.getD (4 * j + m) 0)) := rfl
    have e2 : bm b j (m + 1) = if bm b j m < wd (absV (b.getD (4 * j + m) 0)) then wd (absV (b.getD (4 * j + m) 0)) else bm b j m := rfl
    rw [e1, e2]
    generalize b.getD (4 * j + m) 0 = d at *
    have h1 : ((4 * j + m : Nat) : Int) < ((4 * j + 4 : Nat) : Int) := by omega
    have h0 : (0 : Int) ≤ (4 * j + m : Nat) ∧ ((4 * j + m : Nat) : Int) < 16 := by omega
    have w2 : IntKind.i64.wrap (((4 * j + m : Nat) : Int) + 1) = ((4 * j + (m + 1) : Nat) : Int) := wrap_nat (n := 4 * j + (m + 1)) (by omega)
    have w5 : IntKind.i64.wrap (holdV d * holdV d) = holdV d * holdV d := wrap64 (by omega) (by omega)
    have s := add13 (powS b (4 * j + m)) (holdV d * holdV d) hp (by omega)
    by_cases c : bm b j m < wd (absV d)
    · simp -implicitDefEqProofs only [f6_0, f6_0_0, asI_i, asL_l, asE_nil, Bool.cond_decide, w4, w3, if_pos h1, if_pos h0, Int.toNat_natCast, hx, optK_some, w2, abs17 d hd, altK_0, wd_ok _ (absV_range hd), hold12 d hd, w5, s, if_pos c]
    · simp -implicitDefEqProofs only [f6_0, f6_0_0, asI_i, asL_l, asE_nil, Bool.cond_decide, w4, w3, if_pos h1, if_pos h0, Int.toNat_natCast, hx, optK_some, w2, abs17 d hd, altK_0, wd_ok _ (absV_range hd), hold12 d hd, w5, s, if_neg c]
  · simp -implicitDefEqProofs only [f6_0, f6_0_0, asI_i, asL_l, asE_nil, Bool.cond_decide, w4, w3, if_neg (Int.lt_irrefl _)]
theorem bandsV (b : List Int) (hb : b.length = 16) (hw : ∀ k, k < 16 → In64 (b.getD k 0)) : g6 (0, [.l b]) = some (0, [.b true]) := by
  have t16 : List.take 16 b = b := List.take_of_length_le (by omega)
  have l16 : 16 ≤ b.length := by omega
  have hl : L6_1 (0, [.i 0, .i 0, .l b, .l (bandsL b 16)]) = some (0, [.i (powS b 16), .l b, .l (bandsL b 16)]) := by
    have main := loop1_run (f := f6_1) (fun j => [.i (powS b (4 * j)), .i j, .l b, .l (bandsL b 16)]) 4 (j := 0) (r := [.i (powS b 16), .l b, .l (bandsL b 16)]) (fun j hj => ?_) ?_ (by omega)
    · exact main
    · have h1 : (j : Int) < 4 := by omega
      have j0 : (0 : Int) ≤ j ∧ (j : Int) < 4 := by omega
      have w4 : IntKind.i64.wrap (4 * (j : Int)) = ((4 * j : Nat) : Int) := by rw [wrap64 (by omega) (by omega)]; omega
      have w2 : IntKind.i64.wrap ((j : Int) + 1) = ((j + 1 : Nat) : Int) := wrap_nat (n := j + 1) (by omega)
      have hi := inner6 b (bandsL b 16) hb hw j hj
      have hne : ∀ x : Int, (x ≠ x) = False := fun x => by simp
      have hg : (bandsL b 16)[j]? = some (bm b j 4) := by
        match j, hj with
        | 0, _ => rfl
        | 1, _ => rfl
        | 2, _ => rfl
        | 3, _ => rfl
      rw [show 4 * (j + 1) = 4 * j + 4 by omega]
      simp -implicitDefEqProofs only [f6_1, f6_1_0, asI_i, asL_l, asE_nil, Bool.cond_decide, if_pos h1, w4, hi, altK_0, if_pos j0, Int.toNat_natCast, hg, optK_some, hne, if_false, w2]
    · simp -implicitDefEqProofs only [f6_1, f6_1_0, asI_i, asL_l, asE_nil, Bool.cond_decide]
      rfl
  have l4 : (bandsL b 16).length = 4 := rfl
  have d4 : List.drop 4 ([0, 0, 0, 0] : List Int) = [] := rfl
  simp -implicitDefEqProofs only [g6, g6_0, asL_l, asI_i, asB_b, asE_nil, if_pos l16, t16, bands15 b hb hw, altK_0, l4, d4, Nat.zero_add, List.append_nil, Nat.le_refl, if_true, hl, power18 b hb hw, Bool.cond_decide, awakeL_ok]
theorem bands_ev (b : List Int) (hb : b.length = 16) (hw : ∀ x ∈ b, (Lit.int .i64 x).wf = true) : ∃ d, evF tab d 6 [.ints .i64 b] [] = some (.bool true, [], []) :=
  ⟨_, (ok6 0).ret (i := 0) (ls := [.l b]) (j := 0) (r := [.b true]) (bandsV b hb fun k hk => by
    have hx := get_some (l := b) (i := k) (by omega)
    exact wf64 (hw _ (List.mem_of_getElem? hx))) rfl rfl rfl rfl⟩
end Go.Proofs.Ytmghafpbaigkaaa
