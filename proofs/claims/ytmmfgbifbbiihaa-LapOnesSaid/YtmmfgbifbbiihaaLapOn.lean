/-
  The law that each sample of a spectrum is that of its block, and of the one that it meets, alone. Conditions: none.
-/
import Derived.Test.YtmmfgbifbbiihaaLapE
import Derived.Test.YtmmfgbifbbiihaaDecS6
import Derived.KernelRfl
namespace Go.Proofs.Ytmmfgbifbbiihaa
open Go Go.Sx S
set_option maxRecDepth 100000
set_option linter.unusedVariables false
attribute [local simp] asI_i asB_b asL_l asN_n asS_s asE_nil altK_none altK_0 altK_1 altK_2 altK_3 optK_some optK_none Bool.cond_decide Bool.cond_not Int.toNat_natCast
set_option linter.unusedSimpArgs false

def cl32 (x : Int) : Int := if 4294967296 < x then Int.tmod x 4294967296 else if x < -4294967296 then Int.tmod x 4294967296 else x
theorem set_same {l : List Int} {k : Nat} {u : Int} (h : l[k]? = some u) : l.set k u = l := by
  refine List.ext_getElem (List.length_set ..) fun j h1 h2 => ?_
  rw [List.getElem_set]
  split
  · rename_i e
    subst e
    rw [List.getElem?_eq_getElem h2] at h
    exact (Option.some.inj h).symm
  · rfl
theorem sin_0 (n : Nat) (i : Int) (h : List Int) (x : List Int) (hx : x.length = 16) : L21_0 (0, [.n n, .i i, .i 0, .l h, .l x]) = some (0, [.n n, .i i, .l h, .l (x.map cl32)]) := by
  have hv : (x.map cl32).length = x.length := List.length_map ..
  have hl : L21_0 (0, [.n n, .i i, .i 0, .l h, .l (mix (x.map cl32) x 0)]) = some (0, [.n n, .i i, .l h, .l (x.map cl32)]) := by
    refine loopL_run (m := 2) (f := f21_0) (fun k => (0, [.n n, .i i, .i (k : Int), .l h, .l (mix (x.map cl32) x k)])) 16 (fun k hk => ⟨?_, by show 0 < 2; omega⟩) ?_ (by omega)
    · have hg := (mix_get hv (k := k) (by omega)).trans (get_some (l := x) (i := k) (by omega))
      have hs : (x.map cl32)[k]? = some (cl32 (x.getD k 0)) := by rw [List.getElem?_map, get_some (l := x) (i := k) (by omega)]; rfl
      have hm := mix_set hv (k := k) (by omega) hs
      have hlen := mix_len hv k
      have hsame := set_same hg
      have w2 : IntKind.i64.wrap ((k : Int) + 1) = ((k + 1 : Nat) : Int) := wrap_nat (n := k + 1) (by omega)
      generalize x.getD k 0 = u at *
      simp -implicitDefEqProofs only [f21_0, f21_0_0, asI_i, asN_n, asL_l, asB_b, asE_nil, Bool.cond_decide, if_pos (show (k : Int) < 16 by omega), if_pos (show (0 : Int) ≤ k ∧ (k : Int) < 16 by omega), Int.toNat_natCast, hg, optK_some, if_pos (show k < (mix (x.map cl32) x k).length by omega), w2]
      rw [← hm]
      unfold cl32 at *
      by_cases c : 4294967296 < u
      · rw [if_pos c, if_pos c]
      · rw [if_neg c, if_neg c]
        by_cases d : u < -4294967296
        · rw [if_pos d, if_pos d]
        · rw [if_neg d, if_neg d, hsame]
    · show f21_0 (0, [.n n, .i i, .i ((16 : Nat) : Int), .l h, .l (mix (x.map cl32) x 16)]) = _
      rw [show mix (x.map cl32) x 16 = x.map cl32 by rw [← hx]; exact mix_all hv]
      generalize x.map cl32 = z
      kernel_rfl
  rw [mix_zero] at hl
  exact hl
theorem sin_1 (n q : Nat) (i : Int) (h L : List Int) (x : List Int) (hx : x.length = 16) : L21_0 (1, [.n n, .n q, .i i, .i 0, .l h, .l L, .l x]) = some (1, [.n n, .n q, .i i, .l h, .l L, .l (x.map cl32)]) := by
  have hv : (x.map cl32).length = x.length := List.length_map ..
  have hl : L21_0 (1, [.n n, .n q, .i i, .i 0, .l h, .l L, .l (mix (x.map cl32) x 0)]) = some (1, [.n n, .n q, .i i, .l h, .l L, .l (x.map cl32)]) := by
    refine loopL_run (m := 2) (f := f21_0) (fun k => (1, [.n n, .n q, .i i, .i (k : Int), .l h, .l L, .l (mix (x.map cl32) x k)])) 16 (fun k hk => ⟨?_, by show 1 < 2; omega⟩) ?_ (by omega)
    · have hg := (mix_get hv (k := k) (by omega)).trans (get_some (l := x) (i := k) (by omega))
      have hs : (x.map cl32)[k]? = some (cl32 (x.getD k 0)) := by rw [List.getElem?_map, get_some (l := x) (i := k) (by omega)]; rfl
      have hm := mix_set hv (k := k) (by omega) hs
      have hlen := mix_len hv k
      have hsame := set_same hg
      have w2 : IntKind.i64.wrap ((k : Int) + 1) = ((k + 1 : Nat) : Int) := wrap_nat (n := k + 1) (by omega)
      generalize x.getD k 0 = u at *
      simp -implicitDefEqProofs only [f21_0, f21_0_1, asI_i, asN_n, asL_l, asB_b, asE_nil, Bool.cond_decide, if_pos (show (k : Int) < 16 by omega), if_pos (show (0 : Int) ≤ k ∧ (k : Int) < 16 by omega), Int.toNat_natCast, hg, optK_some, if_pos (show k < (mix (x.map cl32) x k).length by omega), w2]
      rw [← hm]
      unfold cl32 at *
      by_cases c : 4294967296 < u
      · rw [if_pos c, if_pos c]
      · rw [if_neg c, if_neg c]
        by_cases d : u < -4294967296
        · rw [if_pos d, if_pos d]
        · rw [if_neg d, if_neg d, hsame]
    · show f21_0 (1, [.n n, .n q, .i i, .i ((16 : Nat) : Int), .l h, .l L, .l (mix (x.map cl32) x 16)]) = _
      rw [show mix (x.map cl32) x 16 = x.map cl32 by rw [← hx]; exact mix_all hv]
      generalize x.map cl32 = z
      kernel_rfl
  rw [mix_zero] at hl
  exact hl
def sL (h : List Int) (k : Nat) : List Int := (List.take (16 * k) h).map cl32
def bn (G : List Int) (k : Nat) : List Int := List.take 16 (List.drop (k * 16) G)
theorem bn_len {G : List Int} {k : Nat} (h : (k + 1) * 16 ≤ G.length) : (bn G k).length = 16 := by
  unfold bn
  rw [List.length_take, List.length_drop]
  omega
theorem sL_next (h : List Int) (k : Nat) : sL h k ++ (bn h k).map cl32 = sL h (k + 1) := by
  unfold sL bn
  rw [show 16 * (k + 1) = 16 * k + 16 by omega, List.take_add, List.map_append, Nat.mul_comm k 16]
theorem sL_len {h : List Int} {k : Nat} (hk : 16 * k ≤ h.length) : (sL h k).length = k * 16 := by
  unfold sL
  rw [List.length_map, List.length_take]
  omega
theorem sm_ok (n : Nat) (h : List Int) (hn : h.length = 16 * n) (h1 : 1 ≤ n) (hm : n < 9223372036854775808) : g21 (0, [.n n, .l h]) = some (3, [.n (min 12 n), .l h, .l (sL h (min 12 n))]) := by
  have hl : L21_1 (0, [.n n, .i 0, .l h]) = some (3, [.n (min 12 n), .l h, .l (sL h (min 12 n))]) := by
    have main := loopL_run (m := 4) (f := f21_1) (fun k => if k = 0 then (0, [.n n, .i 0, .l h]) else (3, [.n n, .n k, .i (k : Int), .l h, .l (sL h k)])) (min 12 n) (j := 3) (r := [.n (min 12 n), .l h, .l (sL h (min 12 n))]) (fun k hk => ?_) ?_ (by omega)
    · show loopL 4 f21_1 (0, [.n n, .i 0, .l h]) = _
      simpa using main
    · simp only [Nat.succ_ne_zero, if_false]
      refine ⟨?_, by show 3 < 4; omega⟩
      have hlen := bn_len (G := h) (k := k) (by omega)
      have hnx := sL_next h k
      have hgl := sL_len (h := h) (k := k) (by omega)
      have hml : ((bn h k).map cl32).length = 16 := by rw [List.length_map, hlen]
      have hml2 : List.take 16 ((bn h k).map cl32) = (bn h k).map cl32 := take16 hml
      have d16 : List.drop 16 ([0, 0, 0, 0, 0, 0, 0, 0, 0, 0, 0, 0, 0, 0, 0, 0] : List Int) = [] := rfl
      by_cases hk0 : k = 0
      · subst hk0
        have t0 : Int.toNat 0 = 0 := rfl
        have e0 : List.take 16 (List.drop (0 * 16) h) = bn h 0 := rfl
        have w2 : IntKind.i64.wrap ((0 : Int) + 1) = ((0 + 1 : Nat) : Int) := by rfl
        have g0 : sL h 0 = [] := rfl
        rw [g0, List.nil_append] at hnx
        have hin := sin_0 n 0 h (bn h 0) hlen
        rw [← hnx]
        generalize bn h 0 = x at *
        generalize List.map cl32 x = z at *
        simp -implicitDefEqProofs only [f21_1, f21_1_0, asI_i, asN_n, asL_l, asB_b, asE_nil, Bool.cond_decide, if_true, if_pos (show (0 : Int) < n by omega), if_pos (show (0 : Int) < 12 by omega), if_pos (show (0 : Int) ≤ 0 ∧ (0 : Int) < n by omega), t0, if_pos (show 0 * 16 + 16 ≤ h.length by omega), e0, hlen, Nat.zero_add, if_pos (show 16 ≤ 16 by omega), d16, List.append_nil, hin, altK_0, hml, hml2, w2]
      · have e0 : List.take 16 (List.drop (k * 16) h) = bn h k := rfl
        have w2 : IntKind.i64.wrap ((k : Int) + 1) = ((k + 1 : Nat) : Int) := wrap_nat (n := k + 1) (by omega)
        have hin := sin_1 n k (k : Int) h (sL h k) (bn h k) hlen
        rw [if_neg hk0, ← hnx]
        generalize bn h k = x at *
        generalize List.map cl32 x = z at *
        simp -implicitDefEqProofs only [f21_1, f21_1_3, asI_i, asN_n, asL_l, asB_b, asE_nil, Bool.cond_decide, if_true, if_pos (show (k : Int) < n by omega), if_pos (show (k : Int) < 12 by omega), if_pos (show (0 : Int) ≤ k ∧ (k : Int) < n by omega), Int.toNat_natCast, if_pos (show k * 16 + 16 ≤ h.length by omega), e0, hlen, Nat.zero_add, if_pos (show 16 ≤ 16 by omega), d16, List.append_nil, hin, altK_1, hml, hml2, if_pos (show (k + 1) * 128 ≤ 70368744177664 by omega), hgl, w2]
    · have hne : ¬ min 12 n = 0 := by omega
      rw [if_neg hne]
      simp -implicitDefEqProofs only [f21_1, f21_1_3, asI_i, asN_n, asL_l, asB_b, asE_nil, Bool.cond_decide]
      by_cases c : ((min 12 n : Nat) : Int) < n
      · rw [if_pos c, if_neg (by omega)]
      · rw [if_neg c]
  simp -implicitDefEqProofs only [g21, g21_0, asI_i, asN_n, asL_l, asB_b, asE_nil, Bool.cond_decide, hl, altK_3]
theorem sm_0 (h : List Int) : g21 (0, [.n 0, .l h]) = some (0, [.l h]) := by
  have hl : L21_1 (0, [.n 0, .i 0, .l h]) = some (0, [.l h]) := loopL_last (m := 4) (f := f21_1) (j := 0) (by
    simp -implicitDefEqProofs only [f21_1, f21_1_0, asI_i, asN_n, asL_l, asB_b, asE_nil, Bool.cond_decide, if_neg (show ¬ (0 : Int) < ((0 : Nat) : Int) by omega)])
  simp -implicitDefEqProofs only [g21, g21_0, asI_i, asN_n, asL_l, asB_b, asE_nil, Bool.cond_decide, hl, altK_0]
theorem sm_nil : g21 (1, []) = some (1, []) := by kernel_rfl
theorem sm_z : g21 (2, [.n 0]) = some (2, []) := by kernel_rfl
/-! ### One sample -/
def oneV (own oth : List Int) (r : Nat) : Int := if r < 8 then (hV backV r (oth.getD (15 - r) 0) (own.getD r 0)).2 else (hV backV (15 - r) (own.getD r 0) (oth.getD (15 - r) 0)).1
theorem one_1 (x own : List Int) (r : Nat) (hr : r < 16) (hx : x.length = 4) (ho : own.length = 16) : g23 (1, [.l TT, .l x, .i (r : Int), .l own]) = some (1, [.i (rndV (own.getD r 0) (gAt x r)), .l own]) := by
  have h1 := get_some (l := own) (i := r) (by omega)
  have h2 := gat_ok x hx r hr
  have h3 := rnd_g (own.getD r 0) (gAt x r) (gAt_in x r hr).1 (gAt_in x r hr).2
  generalize gAt x r = q at *
  generalize own.getD r 0 = v at *
  simp -implicitDefEqProofs only [g23, g23_1, asI_i, asN_n, asL_l, asB_b, asE_nil, Bool.cond_decide, if_neg (show ¬ (r : Int) < 0 by omega), if_neg (show ¬ (16 : Int) ≤ r by omega), if_pos (show (0 : Int) ≤ r ∧ (r : Int) < 16 by omega), Int.toNat_natCast, h1, optK_some, if_pos (show 4 ≤ x.length by omega), take4 hx, h2, altK_0, h3]
theorem one_0 (x own oth : List Int) (r : Nat) (hr : r < 16) (hx : x.length = 4) (ho : own.length = 16) (hp : oth.length = 16) : g23 (0, [.l TT, .l x, .i (r : Int), .l own, .l oth]) = some (0, [.i (rndV (oneV own oth r) (gAt x r)), .l own, .l oth]) := by
  have h1 := get_some (l := own) (i := r) (by omega)
  have h4 := get_some (l := oth) (i := 15 - r) (by omega)
  have h2 := gat_ok x hx r hr
  have h3 := rnd_g (oneV own oth r) (gAt x r) (gAt_in x r hr).1 (gAt_in x r hr).2
  have w : IntKind.i64.wrap (15 - (r : Int)) = ((15 - r : Nat) : Int) := by rw [wrap64 (by omega) (by omega)]; omega
  by_cases c : r < 8
  · have h5 := tt_ok r c
    have h6 := back_g (oth.getD (15 - r) 0) (own.getD r 0) (TS.getD (2 * r) 0) (TS.getD (2 * r + 1) 0)
    rw [show oneV own oth r = (hV backV r (oth.getD (15 - r) 0) (own.getD r 0)).2 from if_pos c] at *
    unfold hV at *
    generalize gAt x r = q at *
    generalize own.getD r 0 = v at *
    generalize oth.getD (15 - r) 0 = u at *
    generalize TS.getD (2 * r) 0 = P at *
    generalize TS.getD (2 * r + 1) 0 = U at *
    generalize backV P U u v = z at *
    simp -implicitDefEqProofs only [g23, g23_0, asI_i, asN_n, asL_l, asB_b, asE_nil, Bool.cond_decide, if_neg (show ¬ (r : Int) < 0 by omega), if_neg (show ¬ (16 : Int) ≤ r by omega), if_pos (show (0 : Int) ≤ r ∧ (r : Int) < 16 by omega), Int.toNat_natCast, h1, optK_some, w, if_neg (show ¬ ((15 - r : Nat) : Int) < r by omega), h5, altK_0, if_pos (show (r : Int) < 8 by omega), if_pos (show (0 : Int) ≤ ((15 - r : Nat) : Int) ∧ ((15 - r : Nat) : Int) < 16 by omega), h4, h6, if_pos (show 4 ≤ x.length by omega), take4 hx, h2, h3]
  · have h5 := tt_ok (15 - r) (by omega)
    have h6 := back_g (own.getD r 0) (oth.getD (15 - r) 0) (TS.getD (2 * (15 - r)) 0) (TS.getD (2 * (15 - r) + 1) 0)
    rw [show oneV own oth r = (hV backV (15 - r) (own.getD r 0) (oth.getD (15 - r) 0)).1 from if_neg c] at *
    unfold hV at *
    generalize gAt x r = q at *
    generalize own.getD r 0 = v at *
    generalize oth.getD (15 - r) 0 = u at *
    generalize TS.getD (2 * (15 - r)) 0 = P at *
    generalize TS.getD (2 * (15 - r) + 1) 0 = U at *
    generalize backV P U v u = z at *
    simp -implicitDefEqProofs only [g23, g23_0, asI_i, asN_n, asL_l, asB_b, asE_nil, Bool.cond_decide, if_neg (show ¬ (r : Int) < 0 by omega), if_neg (show ¬ (16 : Int) ≤ r by omega), if_pos (show (0 : Int) ≤ r ∧ (r : Int) < 16 by omega), Int.toNat_natCast, h1, optK_some, w, if_pos (show ((15 - r : Nat) : Int) < r by omega), h5, altK_0, if_neg (show ¬ (r : Int) < 8 by omega), if_pos (show (0 : Int) ≤ ((15 - r : Nat) : Int) ∧ ((15 - r : Nat) : Int) < 16 by omega), h4, h6, if_pos (show 4 ≤ x.length by omega), take4 hx, h2, h3]
theorem one_16 (x own oth : List Int) : g23 (0, [.l TT, .l x, .i 16, .l own, .l oth]) = some (0, [.i 0, .l own, .l oth]) := by
  simp -implicitDefEqProofs only [g23, g23_0, asI_i, asN_n, asL_l, asB_b, asE_nil, Bool.cond_decide, if_neg (show ¬ (16 : Int) < 0 by omega), if_pos (show (16 : Int) ≤ 16 by omega)]
theorem one_2 (t x : List Int) : g23 (2, [.l t, .l x, .i 3]) = some (2, [.i 0]) := by kernel_rfl
theorem need_ok (A N : Nat) (hA : A < 16 * N) (hN : N ≤ 20) : g24 (0, [.i (A : Int), .i (N : Int)]) = some (0, if A % 16 < 8 then [.i ((A / 16 - 1 : Nat) : Int), .i ((A / 16 : Nat) : Int)] else [.i ((A / 16 : Nat) : Int), .i ((min (A / 16 + 1) (N - 1) : Nat) : Int)]) := by
  have w1 : IntKind.i64.wrap (16 * (N : Int)) = ((16 * N : Nat) : Int) := by rw [wrap64 (by omega) (by omega)]; omega
  have w2 := td16 A (by omega)
  have w3 := tm16 A
  simp -implicitDefEqProofs only [g24, g24_0, asI_i, asN_n, asL_l, asB_b, asE_nil, Bool.cond_decide, if_neg (show ¬ (A : Int) < 0 by omega), w1, if_neg (show ¬ ((16 * N : Nat) : Int) ≤ (A : Int) by omega), w2, w3]
  by_cases c : A % 16 < 8
  · have w4 : IntKind.i64.wrap (((A / 16 : Nat) : Int) - 1) = ((A / 16 : Nat) : Int) - 1 := wrap64 (by omega) (by omega)
    rw [if_pos (show ((A % 16 : Nat) : Int) < 8 by omega), if_pos c, w4]
    by_cases d : (0 : Int) > ((A / 16 : Nat) : Int) - 1
    · rw [if_pos d, show A / 16 - 1 = 0 by omega]
      rfl
    · rw [if_neg d, show ((A / 16 : Nat) : Int) - 1 = ((A / 16 - 1 : Nat) : Int) by omega]
  · have w4 : IntKind.i64.wrap (((A / 16 : Nat) : Int) + 1) = ((A / 16 + 1 : Nat) : Int) := wrap_nat (n := A / 16 + 1) (by omega)
    have w5 : IntKind.i64.wrap ((N : Int) - 1) = ((N - 1 : Nat) : Int) := by rw [wrap64 (by omega) (by omega)]; omega
    rw [if_neg (show ¬ ((A % 16 : Nat) : Int) < 8 by omega), if_neg c, w4, w5]
    by_cases d : ((N - 1 : Nat) : Int) < ((A / 16 + 1 : Nat) : Int)
    · rw [if_pos d, show min (A / 16 + 1) (N - 1) = N - 1 by omega]
    · rw [if_neg d, show min (A / 16 + 1) (N - 1) = A / 16 + 1 by omega]
/-! ### What stands at a place -/
theorem dn_at (m : Nat) (G : List Int) (f : Nat → Int) (A : Nat) : blkF (dG m G) f A = if A / 16 < m then rndV (f A) (gAt (gn G (A / 16)) (A % 16)) else f A := by
  unfold blkF dG
  have e : 16 * (A / 16) + A % 16 = A := by omega
  split
  · unfold dnB
    rw [tbl_getD (by omega), tbl_getD (by omega), e]
  · rw [tbl_getD (by omega), e]
def ownV (F : Nat → Int) (q : Nat) : List Int := iG q (tbl 16 (fun c => F (16 * q + c)))
theorem own_len (F : Nat → Int) (q : Nat) : (ownV F q).length = 16 := iG_len (tbl_len _ _)
theorem own_at (F : Nat → Int) (q c : Nat) (hc : c < 16) : (ownV F q).getD c 0 = blkF iG F (16 * q + c) := by
  unfold blkF ownV
  rw [show (16 * q + c) / 16 = q by omega, show (16 * q + c) % 16 = c by omega]
theorem wh_one (N : Nat) (F : Nat → Int) (A : Nat) (hA : A < 16 * N) (h : A % 16 < 8 ∧ A / 16 = 0 ∨ ¬ A % 16 < 8 ∧ A / 16 = N - 1) : whF N F A = (ownV F (A / 16)).getD (A % 16) 0 := by
  have hs : ¬ (1 ≤ stepOf A ∧ stepOf A < N) := by
    unfold stepOf
    split <;> omega
  rw [own_at F _ _ (by omega), show 16 * (A / 16) + A % 16 = A by omega]
  exact if_neg hs
theorem wh_two (N : Nat) (F : Nat → Int) (A k : Nat) (hA : A < 16 * N) (h : A % 16 < 8 ∧ 1 ≤ A / 16 ∧ k = A / 16 - 1 ∨ ¬ A % 16 < 8 ∧ A / 16 + 1 < N ∧ k = A / 16 + 1) : whF N F A = oneV (ownV F (A / 16)) (ownV F k) (A % 16) := by
  have hs : 1 ≤ stepOf A ∧ stepOf A < N := by
    unfold stepOf
    split <;> omega
  have e : whF N F A = meetVal (hV backV) (blkF iG F) A := if_pos hs
  rw [e]
  unfold meetVal oneV
  rw [own_at F _ _ (by omega), own_at F _ _ (by omega)]
  rcases h with ⟨h1, h2, rfl⟩ | ⟨h1, h2, rfl⟩
  · have e1 : stepOf A = A / 16 := if_pos h1
    have e2 : kOf A = A % 16 := if_pos h1
    rw [if_pos h1, if_pos h1, e1, e2]
  · have e1 : stepOf A = A / 16 + 1 := if_neg h1
    have e2 : kOf A = 15 - A % 16 := if_neg h1
    rw [if_neg h1, if_neg h1, e1, e2, show 15 - (15 - A % 16) = A % 16 by omega, show A / 16 + 1 - 1 = A / 16 by omega]
theorem g0_at (r : Nat) (hr : r < 16) : gAt [0, 0, 0, 0] r = 0 := by
  have h : r / 4 = 0 ∨ r / 4 = 1 ∨ r / 4 = 2 ∨ r / 4 = 3 := by omega
  unfold gAt
  split
  · rcases h with h | h | h | h <;> rw [h] <;> rfl
  · rfl
theorem rnd_0 (v : Int) : rndV v 0 = v := rfl
set_option maxHeartbeats 8000000 in
theorem on_lg (n m : Nat) (l G : List Int) (hn : l.length = 16 * n) (hG : G.length = 4 * m) (h1 : 1 ≤ n) (h2 : 1 ≤ m) (hm : n < 9223372036854775808) (hm' : m < 9223372036854775808) (a : Int) : g6 (0, [.n n, .n m, .i a, .l l, .l G]) = some (0, [.b true, .l l, .l G]) := by
  have e1 := sm_ok n l hn h1 hm
  have e2 := fewG_ok m G hG h2 hm'
  have hsl := sL_len (h := l) (k := min 12 n) (by omega)
  have hN1 : 1 ≤ min 12 n := by omega
  have hN2 : min 12 n ≤ 12 := by omega
  generalize min 12 n = N at *
  have hgl : (gL G (min 20 m)).length = min 20 m * 4 := gL_len4 hG
  generalize min 20 m = M at *
  generalize gL G M = H at *
  have hP := tbl_of (sL l N) (16 * N) (by omega)
  rw [hP] at e1
  generalize (fun j => (sL l N).getD j 0) = F at *
  clear hP hsl
  have wN : IntKind.i64.wrap (16 * (N : Int)) = ((16 * N : Nat) : Int) := by rw [wrap64 (by omega) (by omega)]; omega
  have e3 := whole_g (16 * N) N M F H hN1 (by omega) (Nat.le_refl _) hgl
  have hv : ∀ A, A < 16 * N → (tbl (16 * N) (blkF (dG M H) (whF N F)))[A]? = some (if A / 16 < M then rndV (whF N F A) (gAt (gn H (A / 16)) (A % 16)) else whF N F A) := fun A hA => by rw [tbl_get hA, dn_at]
  generalize tbl (16 * N) (blkF (dG M H) (whF N F)) = X at *
  have hXl : (tbl (16 * N) F).length = 16 * N := tbl_len _ _
  have hblk : ∀ k, k < N → List.take 16 (List.drop (k * 16) (tbl (16 * N) F)) = tbl 16 (fun c => F (16 * k + c)) := fun k hk => blk_get F (by omega)
  have hown : ∀ k, g25 (0, [.l TS, .l (tbl 16 (fun c => F (16 * k + c)))]) = some (0, [.l (ownV F k)]) := fun k => g25_ok TS (tbl 16 (fun c => F (16 * k + c))) rfl (tbl_len _ _)
  generalize tbl (16 * N) F = P at *
  rcases Int.lt_or_le a 0 with ha | ha
  · simp -implicitDefEqProofs only [g6, g6_0, z32, z16, asI_i, asN_n, asL_l, asB_b, asE_nil, Bool.cond_decide, e1, altK_3, e2, lap_new', TT_len, Nat.zero_add, Nat.le_refl, if_true, TT_drop, List.append_nil, TT_32, altK_0, altK_1, wN, e3, one_2, altK_2, ne_eq, not_true_eq_false, if_false, awakeL_ok, if_pos ha]
  rcases Decidable.em (((16 * N : Nat) : Int) ≤ a) with hb | hb
  · simp -implicitDefEqProofs only [g6, g6_0, z32, z16, asI_i, asN_n, asL_l, asB_b, asE_nil, Bool.cond_decide, e1, altK_3, e2, lap_new', TT_len, Nat.zero_add, Nat.le_refl, if_true, TT_drop, List.append_nil, TT_32, altK_0, altK_1, wN, e3, one_2, altK_2, ne_eq, not_true_eq_false, if_false, awakeL_ok, if_neg (Int.not_lt.2 ha), if_pos hb]
  replace hb := Int.not_le.1 hb
  obtain ⟨A, rfl⟩ := Int.eq_ofNat_of_zero_le ha
  have hA : A < 16 * N := by omega
  have en := need_ok A N hA (by omega)
  have ex := hv A hA
  have wd := td16 A (by omega)
  have wm := tm16 A
  have hr : A % 16 < 16 := by omega
  have hq : A / 16 < N := by omega
  have eo := hown (A / 16)
  have eb := hblk (A / 16) hq
  have hol := own_len F (A / 16)
  by_cases hone : A % 16 < 8 ∧ A / 16 = 0 ∨ ¬ A % 16 < 8 ∧ A / 16 = N - 1
  · have hw := wh_one N F A hA hone
    have en' : ∃ f : Nat, g24 (0, [.i (A : Int), .i (N : Int)]) = some (0, [.i (f : Int), .i (f : Int)]) := by
      rw [en]
      rcases hone with ⟨c, d⟩ | ⟨c, d⟩
      · rw [if_pos c]
        exact ⟨0, by rw [d]⟩
      · rw [if_neg c]
        exact ⟨A / 16, by rw [show min (A / 16 + 1) (N - 1) = A / 16 by omega]⟩
    obtain ⟨f, en'⟩ := en'
    clear en
    have en := en'
    have heq : (f : Int) = (f : Int) := rfl
    by_cases hqm : A / 16 < M
    · skip
      have hgn := gn_len (G := H) (k := A / 16) (by omega)
      have hgg : List.take 4 (List.drop (A / 16 * 4) H) = gn H (A / 16) := rfl
      have eone := one_1 (gn H (A / 16)) (ownV F (A / 16)) (A % 16) hr (gn_len (by omega)) hol
      rw [if_pos (show A / 16 < M by omega)] at ex
      rw [hw] at ex
      generalize ownV F (A / 16) = O at *
      generalize gn H (A / 16) = y at *
      generalize tbl 16 _ = t1 at *
      simp -implicitDefEqProofs only [g6, g6_0, z32, z16, asI_i, asN_n, asL_l, asB_b, asE_nil, Bool.cond_decide, e1, altK_3, e2, lap_new', TT_len, Nat.zero_add, Nat.le_refl, if_true, TT_drop, List.append_nil, TT_32, altK_0, altK_1, wN, e3, one_2, altK_2, ne_eq, not_true_eq_false, if_false, awakeL_ok, if_neg (Int.not_lt.2 ha), if_neg (Int.not_le.2 hb), wd, wm, if_pos (show (0 : Int) ≤ ((A / 16 : Nat) : Int) ∧ ((A / 16 : Nat) : Int) < N by omega), Int.toNat_natCast, hXl, if_pos (show A / 16 * 16 + 16 ≤ 16 * N by omega), eb, TT_hi, eo, hol, show List.drop 16 ([0, 0, 0, 0, 0, 0, 0, 0, 0, 0, 0, 0, 0, 0, 0, 0] : List Int) = [] from rfl, if_pos (show (0 : Int) ≤ (A : Int) ∧ (A : Int) < ((16 * N : Nat) : Int) from ⟨ha, hb⟩), optK_some, en, if_pos (show ((A / 16 : Nat) : Int) < (M : Int) by omega), if_pos (show (0 : Int) ≤ ((A / 16 : Nat) : Int) ∧ ((A / 16 : Nat) : Int) < (M : Int) by omega), if_pos (show A / 16 * 4 + 4 ≤ H.length by omega), hgg, hgn, show List.drop 4 ([0, 0, 0, 0] : List Int) = [] from rfl, take4 hgn, if_pos heq, eone, ex]
    · skip
      have eone := one_1 [0, 0, 0, 0] (ownV F (A / 16)) (A % 16) hr rfl hol
      rw [g0_at _ hr, rnd_0] at eone
      rw [if_neg (show ¬ A / 16 < M by omega)] at ex
      rw [hw] at ex
      generalize ownV F (A / 16) = O at *
      generalize tbl 16 _ = t1 at *
      simp -implicitDefEqProofs only [g6, g6_0, z32, z16, asI_i, asN_n, asL_l, asB_b, asE_nil, Bool.cond_decide, e1, altK_3, e2, lap_new', TT_len, Nat.zero_add, Nat.le_refl, if_true, TT_drop, List.append_nil, TT_32, altK_0, altK_1, wN, e3, one_2, altK_2, ne_eq, not_true_eq_false, if_false, awakeL_ok, if_neg (Int.not_lt.2 ha), if_neg (Int.not_le.2 hb), wd, wm, if_pos (show (0 : Int) ≤ ((A / 16 : Nat) : Int) ∧ ((A / 16 : Nat) : Int) < N by omega), Int.toNat_natCast, hXl, if_pos (show A / 16 * 16 + 16 ≤ 16 * N by omega), eb, TT_hi, eo, hol, show List.drop 16 ([0, 0, 0, 0, 0, 0, 0, 0, 0, 0, 0, 0, 0, 0, 0, 0] : List Int) = [] from rfl, if_pos (show (0 : Int) ≤ (A : Int) ∧ (A : Int) < ((16 * N : Nat) : Int) from ⟨ha, hb⟩), optK_some, en, if_neg (show ¬ ((A / 16 : Nat) : Int) < (M : Int) by omega), if_pos heq, eone, ex]
  · obtain ⟨k, hkk, hk, f, t, en', hne, hkf⟩ : ∃ k : Nat, (A % 16 < 8 ∧ 1 ≤ A / 16 ∧ k = A / 16 - 1 ∨ ¬ A % 16 < 8 ∧ A / 16 + 1 < N ∧ k = A / 16 + 1) ∧ k < N ∧ ∃ f t : Nat, g24 (0, [.i (A : Int), .i (N : Int)]) = some (0, [.i (f : Int), .i (t : Int)]) ∧ ¬ (f : Int) = (t : Int) ∧ f + t = A / 16 + k := by
      by_cases c : A % 16 < 8
      · rw [if_pos c] at en
        exact ⟨A / 16 - 1, .inl ⟨c, by omega, rfl⟩, by omega, A / 16 - 1, A / 16, en, by omega, by omega⟩
      · rw [if_neg c, show min (A / 16 + 1) (N - 1) = A / 16 + 1 by omega] at en
        exact ⟨A / 16 + 1, .inr ⟨c, by omega, rfl⟩, by omega, A / 16, A / 16 + 1, en, by omega, by omega⟩
    clear en
    have en := en'
    have hw := wh_two N F A k hA hkk
    have wk : IntKind.i64.wrap (IntKind.i64.wrap ((f : Int) + (t : Int)) - ((A / 16 : Nat) : Int)) = (k : Int) := by
      rw [show IntKind.i64.wrap ((f : Int) + (t : Int)) = (f : Int) + (t : Int) from wrap64 (by omega) (by omega), wrap64 (by omega) (by omega)]
      omega
    by_cases hqm : A / 16 < M
    · skip
      have hgn := gn_len (G := H) (k := A / 16) (by omega)
      have hgg : List.take 4 (List.drop (A / 16 * 4) H) = gn H (A / 16) := rfl
      have hpl := own_len F k
      have ep := hown k
      have epb := hblk k hk
      have eone := one_0 (gn H (A / 16)) (ownV F (A / 16)) (ownV F k) (A % 16) hr (gn_len (by omega)) hol hpl
      have e16 := one_16 (gn H (A / 16)) (ownV F (A / 16)) (ownV F k)
      rw [if_pos (show A / 16 < M by omega)] at ex
      rw [hw] at ex
      generalize ownV F k = V at *
      generalize ownV F (A / 16) = O at *
      generalize gn H (A / 16) = y at *
      generalize tbl 16 _ = t1 at *
      generalize tbl 16 _ = t2 at *
      simp -implicitDefEqProofs only [g6, g6_0, z32, z16, asI_i, asN_n, asL_l, asB_b, asE_nil, Bool.cond_decide, e1, altK_3, e2, lap_new', TT_len, Nat.zero_add, Nat.le_refl, if_true, TT_drop, List.append_nil, TT_32, altK_0, altK_1, wN, e3, one_2, altK_2, ne_eq, not_true_eq_false, if_false, awakeL_ok, if_neg (Int.not_lt.2 ha), if_neg (Int.not_le.2 hb), wd, wm, if_pos (show (0 : Int) ≤ ((A / 16 : Nat) : Int) ∧ ((A / 16 : Nat) : Int) < N by omega), Int.toNat_natCast, hXl, if_pos (show A / 16 * 16 + 16 ≤ 16 * N by omega), eb, TT_hi, eo, hol, show List.drop 16 ([0, 0, 0, 0, 0, 0, 0, 0, 0, 0, 0, 0, 0, 0, 0, 0] : List Int) = [] from rfl, if_pos (show (0 : Int) ≤ (A : Int) ∧ (A : Int) < ((16 * N : Nat) : Int) from ⟨ha, hb⟩), optK_some, en, if_pos (show ((A / 16 : Nat) : Int) < (M : Int) by omega), if_pos (show (0 : Int) ≤ ((A / 16 : Nat) : Int) ∧ ((A / 16 : Nat) : Int) < (M : Int) by omega), if_pos (show A / 16 * 4 + 4 ≤ H.length by omega), hgg, hgn, show List.drop 4 ([0, 0, 0, 0] : List Int) = [] from rfl, take4 hgn, if_neg hne, wk, if_neg (show ¬ (k : Int) < 0 by omega), if_neg (show ¬ (N : Int) ≤ (k : Int) by omega), if_pos (show (0 : Int) ≤ (k : Int) ∧ (k : Int) < N by omega), if_pos (show k * 16 + 16 ≤ 16 * N by omega), epb, ep, hpl, eone, ex, e16]
    · skip
      have hpl := own_len F k
      have ep := hown k
      have epb := hblk k hk
      have eone := one_0 [0, 0, 0, 0] (ownV F (A / 16)) (ownV F k) (A % 16) hr rfl hol hpl
      have e16 := one_16 [0, 0, 0, 0] (ownV F (A / 16)) (ownV F k)
      rw [g0_at _ hr, rnd_0] at eone
      rw [if_neg (show ¬ A / 16 < M by omega)] at ex
      rw [hw] at ex
      generalize ownV F k = V at *
      generalize ownV F (A / 16) = O at *
      generalize tbl 16 _ = t1 at *
      generalize tbl 16 _ = t2 at *
      simp -implicitDefEqProofs only [g6, g6_0, z32, z16, asI_i, asN_n, asL_l, asB_b, asE_nil, Bool.cond_decide, e1, altK_3, e2, lap_new', TT_len, Nat.zero_add, Nat.le_refl, if_true, TT_drop, List.append_nil, TT_32, altK_0, altK_1, wN, e3, one_2, altK_2, ne_eq, not_true_eq_false, if_false, awakeL_ok, if_neg (Int.not_lt.2 ha), if_neg (Int.not_le.2 hb), wd, wm, if_pos (show (0 : Int) ≤ ((A / 16 : Nat) : Int) ∧ ((A / 16 : Nat) : Int) < N by omega), Int.toNat_natCast, hXl, if_pos (show A / 16 * 16 + 16 ≤ 16 * N by omega), eb, TT_hi, eo, hol, show List.drop 16 ([0, 0, 0, 0, 0, 0, 0, 0, 0, 0, 0, 0, 0, 0, 0, 0] : List Int) = [] from rfl, if_pos (show (0 : Int) ≤ (A : Int) ∧ (A : Int) < ((16 * N : Nat) : Int) from ⟨ha, hb⟩), optK_some, en, if_neg (show ¬ ((A / 16 : Nat) : Int) < (M : Int) by omega), if_neg hne, wk, if_neg (show ¬ (k : Int) < 0 by omega), if_neg (show ¬ (N : Int) ≤ (k : Int) by omega), if_pos (show (0 : Int) ≤ (k : Int) ∧ (k : Int) < N by omega), if_pos (show k * 16 + 16 ≤ 16 * N by omega), epb, ep, hpl, eone, ex, e16]
set_option maxHeartbeats 8000000 in
theorem on_l0 (n : Nat) (l G : List Int) (hn : l.length = 16 * n) (h1 : 1 ≤ n) (hm : n < 9223372036854775808) (a : Int) : g6 (0, [.n n, .n 0, .i a, .l l, .l G]) = some (0, [.b true, .l l, .l G]) := by
  have e1 := sm_ok n l hn h1 hm
  have hsl := sL_len (h := l) (k := min 12 n) (by omega)
  have hN1 : 1 ≤ min 12 n := by omega
  have hN2 : min 12 n ≤ 12 := by omega
  generalize min 12 n = N at *
  have hP := tbl_of (sL l N) (16 * N) (by omega)
  rw [hP] at e1
  generalize (fun j => (sL l N).getD j 0) = F at *
  clear hP hsl
  have wN : IntKind.i64.wrap (16 * (N : Int)) = ((16 * N : Nat) : Int) := by rw [wrap64 (by omega) (by omega)]; omega
  have e3 := whole_n (16 * N) N F hN1 (by omega) (Nat.le_refl _)
  have hv : ∀ A, A < 16 * N → (tbl (16 * N) (whF N F))[A]? = some (whF N F A) := fun A hA => tbl_get hA
  generalize tbl (16 * N) (whF N F) = X at *
  have hXl : (tbl (16 * N) F).length = 16 * N := tbl_len _ _
  have hblk : ∀ k, k < N → List.take 16 (List.drop (k * 16) (tbl (16 * N) F)) = tbl 16 (fun c => F (16 * k + c)) := fun k hk => blk_get F (by omega)
  have hown : ∀ k, g25 (0, [.l TS, .l (tbl 16 (fun c => F (16 * k + c)))]) = some (0, [.l (ownV F k)]) := fun k => g25_ok TS (tbl 16 (fun c => F (16 * k + c))) rfl (tbl_len _ _)
  generalize tbl (16 * N) F = P at *
  rcases Int.lt_or_le a 0 with ha | ha
  · simp -implicitDefEqProofs only [g6, g6_0, z32, z16, asI_i, asN_n, asL_l, asB_b, asE_nil, Bool.cond_decide, e1, altK_3, fewG_0, lap_new', TT_len, Nat.zero_add, Nat.le_refl, if_true, TT_drop, List.append_nil, TT_32, altK_0, altK_1, wN, e3, one_2, altK_2, ne_eq, not_true_eq_false, if_false, awakeL_ok, if_pos ha]
  rcases Decidable.em (((16 * N : Nat) : Int) ≤ a) with hb | hb
  · simp -implicitDefEqProofs only [g6, g6_0, z32, z16, asI_i, asN_n, asL_l, asB_b, asE_nil, Bool.cond_decide, e1, altK_3, fewG_0, lap_new', TT_len, Nat.zero_add, Nat.le_refl, if_true, TT_drop, List.append_nil, TT_32, altK_0, altK_1, wN, e3, one_2, altK_2, ne_eq, not_true_eq_false, if_false, awakeL_ok, if_neg (Int.not_lt.2 ha), if_pos hb]
  replace hb := Int.not_le.1 hb
  obtain ⟨A, rfl⟩ := Int.eq_ofNat_of_zero_le ha
  have hA : A < 16 * N := by omega
  have en := need_ok A N hA (by omega)
  have ex := hv A hA
  have wd := td16 A (by omega)
  have wm := tm16 A
  have hr : A % 16 < 16 := by omega
  have hq : A / 16 < N := by omega
  have eo := hown (A / 16)
  have eb := hblk (A / 16) hq
  have hol := own_len F (A / 16)
  by_cases hone : A % 16 < 8 ∧ A / 16 = 0 ∨ ¬ A % 16 < 8 ∧ A / 16 = N - 1
  · have hw := wh_one N F A hA hone
    have en' : ∃ f : Nat, g24 (0, [.i (A : Int), .i (N : Int)]) = some (0, [.i (f : Int), .i (f : Int)]) := by
      rw [en]
      rcases hone with ⟨c, d⟩ | ⟨c, d⟩
      · rw [if_pos c]
        exact ⟨0, by rw [d]⟩
      · rw [if_neg c]
        exact ⟨A / 16, by rw [show min (A / 16 + 1) (N - 1) = A / 16 by omega]⟩
    obtain ⟨f, en'⟩ := en'
    clear en
    have en := en'
    have heq : (f : Int) = (f : Int) := rfl
    have eone := one_1 [0, 0, 0, 0] (ownV F (A / 16)) (A % 16) hr rfl hol
    rw [g0_at _ hr, rnd_0] at eone
    rw [hw] at ex
    generalize ownV F (A / 16) = O at *
    generalize tbl 16 _ = t1 at *
    simp -implicitDefEqProofs only [g6, g6_0, z32, z16, asI_i, asN_n, asL_l, asB_b, asE_nil, Bool.cond_decide, e1, altK_3, fewG_0, lap_new', TT_len, Nat.zero_add, Nat.le_refl, if_true, TT_drop, List.append_nil, TT_32, altK_0, altK_1, wN, e3, one_2, altK_2, ne_eq, not_true_eq_false, if_false, awakeL_ok, if_neg (Int.not_lt.2 ha), if_neg (Int.not_le.2 hb), wd, wm, if_pos (show (0 : Int) ≤ ((A / 16 : Nat) : Int) ∧ ((A / 16 : Nat) : Int) < N by omega), Int.toNat_natCast, hXl, if_pos (show A / 16 * 16 + 16 ≤ 16 * N by omega), eb, TT_hi, eo, hol, show List.drop 16 ([0, 0, 0, 0, 0, 0, 0, 0, 0, 0, 0, 0, 0, 0, 0, 0] : List Int) = [] from rfl, if_pos (show (0 : Int) ≤ (A : Int) ∧ (A : Int) < ((16 * N : Nat) : Int) from ⟨ha, hb⟩), optK_some, en, if_neg (show ¬ ((A / 16 : Nat) : Int) < 0 by omega), if_pos heq, eone, ex]
  · obtain ⟨k, hkk, hk, f, t, en', hne, hkf⟩ : ∃ k : Nat, (A % 16 < 8 ∧ 1 ≤ A / 16 ∧ k = A / 16 - 1 ∨ ¬ A % 16 < 8 ∧ A / 16 + 1 < N ∧ k = A / 16 + 1) ∧ k < N ∧ ∃ f t : Nat, g24 (0, [.i (A : Int), .i (N : Int)]) = some (0, [.i (f : Int), .i (t : Int)]) ∧ ¬ (f : Int) = (t : Int) ∧ f + t = A / 16 + k := by
      by_cases c : A % 16 < 8
      · rw [if_pos c] at en
        exact ⟨A / 16 - 1, .inl ⟨c, by omega, rfl⟩, by omega, A / 16 - 1, A / 16, en, by omega, by omega⟩
      · rw [if_neg c, show min (A / 16 + 1) (N - 1) = A / 16 + 1 by omega] at en
        exact ⟨A / 16 + 1, .inr ⟨c, by omega, rfl⟩, by omega, A / 16, A / 16 + 1, en, by omega, by omega⟩
    clear en
    have en := en'
    have hw := wh_two N F A k hA hkk
    have wk : IntKind.i64.wrap (IntKind.i64.wrap ((f : Int) + (t : Int)) - ((A / 16 : Nat) : Int)) = (k : Int) := by
      rw [show IntKind.i64.wrap ((f : Int) + (t : Int)) = (f : Int) + (t : Int) from wrap64 (by omega) (by omega), wrap64 (by omega) (by omega)]
      omega
    have hpl := own_len F k
    have ep := hown k
    have epb := hblk k hk
    have eone := one_0 [0, 0, 0, 0] (ownV F (A / 16)) (ownV F k) (A % 16) hr rfl hol hpl
    have e16 := one_16 [0, 0, 0, 0] (ownV F (A / 16)) (ownV F k)
    rw [g0_at _ hr, rnd_0] at eone
    rw [hw] at ex
    generalize ownV F k = V at *
    generalize ownV F (A / 16) = O at *
    generalize tbl 16 _ = t1 at *
    generalize tbl 16 _ = t2 at *
    simp -implicitDefEqProofs only [g6, g6_0, z32, z16, asI_i, asN_n, asL_l, asB_b, asE_nil, Bool.cond_decide, e1, altK_3, fewG_0, lap_new', TT_len, Nat.zero_add, Nat.le_refl, if_true, TT_drop, List.append_nil, TT_32, altK_0, altK_1, wN, e3, one_2, altK_2, ne_eq, not_true_eq_false, if_false, awakeL_ok, if_neg (Int.not_lt.2 ha), if_neg (Int.not_le.2 hb), wd, wm, if_pos (show (0 : Int) ≤ ((A / 16 : Nat) : Int) ∧ ((A / 16 : Nat) : Int) < N by omega), Int.toNat_natCast, hXl, if_pos (show A / 16 * 16 + 16 ≤ 16 * N by omega), eb, TT_hi, eo, hol, show List.drop 16 ([0, 0, 0, 0, 0, 0, 0, 0, 0, 0, 0, 0, 0, 0, 0, 0] : List Int) = [] from rfl, if_pos (show (0 : Int) ≤ (A : Int) ∧ (A : Int) < ((16 * N : Nat) : Int) from ⟨ha, hb⟩), optK_some, en, if_neg (show ¬ ((A / 16 : Nat) : Int) < 0 by omega), if_neg hne, wk, if_neg (show ¬ (k : Int) < 0 by omega), if_neg (show ¬ (N : Int) ≤ (k : Int) by omega), if_pos (show (0 : Int) ≤ (k : Int) ∧ (k : Int) < N by omega), if_pos (show k * 16 + 16 ≤ 16 * N by omega), epb, ep, hpl, eone, ex, e16]
set_option maxHeartbeats 8000000 in
theorem on_ln (n : Nat) (l : List Int) (hn : l.length = 16 * n) (h1 : 1 ≤ n) (hm : n < 9223372036854775808) (a : Int) : g6 (1, [.n n, .i a, .l l]) = some (1, [.b true, .l l]) := by
  have e1 := sm_ok n l hn h1 hm
  have hsl := sL_len (h := l) (k := min 12 n) (by omega)
  have hN1 : 1 ≤ min 12 n := by omega
  have hN2 : min 12 n ≤ 12 := by omega
  generalize min 12 n = N at *
  have hP := tbl_of (sL l N) (16 * N) (by omega)
  rw [hP] at e1
  generalize (fun j => (sL l N).getD j 0) = F at *
  clear hP hsl
  have wN : IntKind.i64.wrap (16 * (N : Int)) = ((16 * N : Nat) : Int) := by rw [wrap64 (by omega) (by omega)]; omega
  have e3 := whole_n (16 * N) N F hN1 (by omega) (Nat.le_refl _)
  have hv : ∀ A, A < 16 * N → (tbl (16 * N) (whF N F))[A]? = some (whF N F A) := fun A hA => tbl_get hA
  generalize tbl (16 * N) (whF N F) = X at *
  have hXl : (tbl (16 * N) F).length = 16 * N := tbl_len _ _
  have hblk : ∀ k, k < N → List.take 16 (List.drop (k * 16) (tbl (16 * N) F)) = tbl 16 (fun c => F (16 * k + c)) := fun k hk => blk_get F (by omega)
  have hown : ∀ k, g25 (0, [.l TS, .l (tbl 16 (fun c => F (16 * k + c)))]) = some (0, [.l (ownV F k)]) := fun k => g25_ok TS (tbl 16 (fun c => F (16 * k + c))) rfl (tbl_len _ _)
  generalize tbl (16 * N) F = P at *
  rcases Int.lt_or_le a 0 with ha | ha
  · simp -implicitDefEqProofs only [g6, g6_1, z32, z16, asI_i, asN_n, asL_l, asB_b, asE_nil, Bool.cond_decide, e1, altK_3, fewG_nil, lap_new', TT_len, Nat.zero_add, Nat.le_refl, if_true, TT_drop, List.append_nil, TT_32, altK_0, altK_1, wN, e3, one_2, altK_2, ne_eq, not_true_eq_false, if_false, awakeL_ok, if_pos ha]
  rcases Decidable.em (((16 * N : Nat) : Int) ≤ a) with hb | hb
  · simp -implicitDefEqProofs only [g6, g6_1, z32, z16, asI_i, asN_n, asL_l, asB_b, asE_nil, Bool.cond_decide, e1, altK_3, fewG_nil, lap_new', TT_len, Nat.zero_add, Nat.le_refl, if_true, TT_drop, List.append_nil, TT_32, altK_0, altK_1, wN, e3, one_2, altK_2, ne_eq, not_true_eq_false, if_false, awakeL_ok, if_neg (Int.not_lt.2 ha), if_pos hb]
  replace hb := Int.not_le.1 hb
  obtain ⟨A, rfl⟩ := Int.eq_ofNat_of_zero_le ha
  have hA : A < 16 * N := by omega
  have en := need_ok A N hA (by omega)
  have ex := hv A hA
  have wd := td16 A (by omega)
  have wm := tm16 A
  have hr : A % 16 < 16 := by omega
  have hq : A / 16 < N := by omega
  have eo := hown (A / 16)
  have eb := hblk (A / 16) hq
  have hol := own_len F (A / 16)
  by_cases hone : A % 16 < 8 ∧ A / 16 = 0 ∨ ¬ A % 16 < 8 ∧ A / 16 = N - 1
  · have hw := wh_one N F A hA hone
    have en' : ∃ f : Nat, g24 (0, [.i (A : Int), .i (N : Int)]) = some (0, [.i (f : Int), .i (f : Int)]) := by
      rw [en]
      rcases hone with ⟨c, d⟩ | ⟨c, d⟩
      · rw [if_pos c]
        exact ⟨0, by rw [d]⟩
      · rw [if_neg c]
        exact ⟨A / 16, by rw [show min (A / 16 + 1) (N - 1) = A / 16 by omega]⟩
    obtain ⟨f, en'⟩ := en'
    clear en
    have en := en'
    have heq : (f : Int) = (f : Int) := rfl
    have eone := one_1 [0, 0, 0, 0] (ownV F (A / 16)) (A % 16) hr rfl hol
    rw [g0_at _ hr, rnd_0] at eone
    rw [hw] at ex
    generalize ownV F (A / 16) = O at *
    generalize tbl 16 _ = t1 at *
    simp -implicitDefEqProofs only [g6, g6_1, z32, z16, asI_i, asN_n, asL_l, asB_b, asE_nil, Bool.cond_decide, e1, altK_3, fewG_nil, lap_new', TT_len, Nat.zero_add, Nat.le_refl, if_true, TT_drop, List.append_nil, TT_32, altK_0, altK_1, wN, e3, one_2, altK_2, ne_eq, not_true_eq_false, if_false, awakeL_ok, if_neg (Int.not_lt.2 ha), if_neg (Int.not_le.2 hb), wd, wm, if_pos (show (0 : Int) ≤ ((A / 16 : Nat) : Int) ∧ ((A / 16 : Nat) : Int) < N by omega), Int.toNat_natCast, hXl, if_pos (show A / 16 * 16 + 16 ≤ 16 * N by omega), eb, TT_hi, eo, hol, show List.drop 16 ([0, 0, 0, 0, 0, 0, 0, 0, 0, 0, 0, 0, 0, 0, 0, 0] : List Int) = [] from rfl, if_pos (show (0 : Int) ≤ (A : Int) ∧ (A : Int) < ((16 * N : Nat) : Int) from ⟨ha, hb⟩), optK_some, en, if_neg (show ¬ ((A / 16 : Nat) : Int) < 0 by omega), if_pos heq, eone, ex]
  · obtain ⟨k, hkk, hk, f, t, en', hne, hkf⟩ : ∃ k : Nat, (A % 16 < 8 ∧ 1 ≤ A / 16 ∧ k = A / 16 - 1 ∨ ¬ A % 16 < 8 ∧ A / 16 + 1 < N ∧ k = A / 16 + 1) ∧ k < N ∧ ∃ f t : Nat, g24 (0, [.i (A : Int), .i (N : Int)]) = some (0, [.i (f : Int), .i (t : Int)]) ∧ ¬ (f : Int) = (t : Int) ∧ f + t = A / 16 + k := by
      by_cases c : A % 16 < 8
      · rw [if_pos c] at en
        exact ⟨A / 16 - 1, .inl ⟨c, by omega, rfl⟩, by omega, A / 16 - 1, A / 16, en, by omega, by omega⟩
      · rw [if_neg c, show min (A / 16 + 1) (N - 1) = A / 16 + 1 by omega] at en
        exact ⟨A / 16 + 1, .inr ⟨c, by omega, rfl⟩, by omega, A / 16, A / 16 + 1, en, by omega, by omega⟩
    clear en
    have en := en'
    have hw := wh_two N F A k hA hkk
    have wk : IntKind.i64.wrap (IntKind.i64.wrap ((f : Int) + (t : Int)) - ((A / 16 : Nat) : Int)) = (k : Int) := by
      rw [show IntKind.i64.wrap ((f : Int) + (t : Int)) = (f : Int) + (t : Int) from wrap64 (by omega) (by omega), wrap64 (by omega) (by omega)]
      omega
    have hpl := own_len F k
    have ep := hown k
    have epb := hblk k hk
    have eone := one_0 [0, 0, 0, 0] (ownV F (A / 16)) (ownV F k) (A % 16) hr rfl hol hpl
    have e16 := one_16 [0, 0, 0, 0] (ownV F (A / 16)) (ownV F k)
    rw [g0_at _ hr, rnd_0] at eone
    rw [hw] at ex
    generalize ownV F k = V at *
    generalize ownV F (A / 16) = O at *
    generalize tbl 16 _ = t1 at *
    generalize tbl 16 _ = t2 at *
    simp -implicitDefEqProofs only [g6, g6_1, z32, z16, asI_i, asN_n, asL_l, asB_b, asE_nil, Bool.cond_decide, e1, altK_3, fewG_nil, lap_new', TT_len, Nat.zero_add, Nat.le_refl, if_true, TT_drop, List.append_nil, TT_32, altK_0, altK_1, wN, e3, one_2, altK_2, ne_eq, not_true_eq_false, if_false, awakeL_ok, if_neg (Int.not_lt.2 ha), if_neg (Int.not_le.2 hb), wd, wm, if_pos (show (0 : Int) ≤ ((A / 16 : Nat) : Int) ∧ ((A / 16 : Nat) : Int) < N by omega), Int.toNat_natCast, hXl, if_pos (show A / 16 * 16 + 16 ≤ 16 * N by omega), eb, TT_hi, eo, hol, show List.drop 16 ([0, 0, 0, 0, 0, 0, 0, 0, 0, 0, 0, 0, 0, 0, 0, 0] : List Int) = [] from rfl, if_pos (show (0 : Int) ≤ (A : Int) ∧ (A : Int) < ((16 * N : Nat) : Int) from ⟨ha, hb⟩), optK_some, en, if_neg (show ¬ ((A / 16 : Nat) : Int) < 0 by omega), if_neg hne, wk, if_neg (show ¬ (k : Int) < 0 by omega), if_neg (show ¬ (N : Int) ≤ (k : Int) by omega), if_pos (show (0 : Int) ≤ (k : Int) ∧ (k : Int) < N by omega), if_pos (show k * 16 + 16 ≤ 16 * N by omega), epb, ep, hpl, eone, ex, e16]
set_option maxHeartbeats 8000000 in
theorem on_ld (n : Nat) (l : List Int) (hn : l.length = 16 * n) (h1 : 1 ≤ n) (hm : n < 9223372036854775808) (a : Int) : g6 (2, [.n n, .n 0, .i a, .l l]) = some (2, [.b true, .l l]) := by
  have e1 := sm_ok n l hn h1 hm
  have hsl := sL_len (h := l) (k := min 12 n) (by omega)
  have hN1 : 1 ≤ min 12 n := by omega
  have hN2 : min 12 n ≤ 12 := by omega
  generalize min 12 n = N at *
  have hP := tbl_of (sL l N) (16 * N) (by omega)
  rw [hP] at e1
  generalize (fun j => (sL l N).getD j 0) = F at *
  clear hP hsl
  have wN : IntKind.i64.wrap (16 * (N : Int)) = ((16 * N : Nat) : Int) := by rw [wrap64 (by omega) (by omega)]; omega
  have e3 := whole_n (16 * N) N F hN1 (by omega) (Nat.le_refl _)
  have hv : ∀ A, A < 16 * N → (tbl (16 * N) (whF N F))[A]? = some (whF N F A) := fun A hA => tbl_get hA
  generalize tbl (16 * N) (whF N F) = X at *
  have hXl : (tbl (16 * N) F).length = 16 * N := tbl_len _ _
  have hblk : ∀ k, k < N → List.take 16 (List.drop (k * 16) (tbl (16 * N) F)) = tbl 16 (fun c => F (16 * k + c)) := fun k hk => blk_get F (by omega)
  have hown : ∀ k, g25 (0, [.l TS, .l (tbl 16 (fun c => F (16 * k + c)))]) = some (0, [.l (ownV F k)]) := fun k => g25_ok TS (tbl 16 (fun c => F (16 * k + c))) rfl (tbl_len _ _)
  generalize tbl (16 * N) F = P at *
  rcases Int.lt_or_le a 0 with ha | ha
  · simp -implicitDefEqProofs only [g6, g6_2, z32, z16, asI_i, asN_n, asL_l, asB_b, asE_nil, Bool.cond_decide, e1, altK_3, fewG_z, lap_new', TT_len, Nat.zero_add, Nat.le_refl, if_true, TT_drop, List.append_nil, TT_32, altK_0, altK_1, wN, e3, one_2, altK_2, ne_eq, not_true_eq_false, if_false, awakeL_ok, if_pos ha]
  rcases Decidable.em (((16 * N : Nat) : Int) ≤ a) with hb | hb
  · simp -implicitDefEqProofs only [g6, g6_2, z32, z16, asI_i, asN_n, asL_l, asB_b, asE_nil, Bool.cond_decide, e1, altK_3, fewG_z, lap_new', TT_len, Nat.zero_add, Nat.le_refl, if_true, TT_drop, List.append_nil, TT_32, altK_0, altK_1, wN, e3, one_2, altK_2, ne_eq, not_true_eq_false, if_false, awakeL_ok, if_neg (Int.not_lt.2 ha), if_pos hb]
  replace hb := Int.not_le.1 hb
  obtain ⟨A, rfl⟩ := Int.eq_ofNat_of_zero_le ha
  have hA : A < 16 * N := by omega
  have en := need_ok A N hA (by omega)
  have ex := hv A hA
  have wd := td16 A (by omega)
  have wm := tm16 A
  have hr : A % 16 < 16 := by omega
  have hq : A / 16 < N := by omega
  have eo := hown (A / 16)
  have eb := hblk (A / 16) hq
  have hol := own_len F (A / 16)
  by_cases hone : A % 16 < 8 ∧ A / 16 = 0 ∨ ¬ A % 16 < 8 ∧ A / 16 = N - 1
  · have hw := wh_one N F A hA hone
    have en' : ∃ f : Nat, g24 (0, [.i (A : Int), .i (N : Int)]) = some (0, [.i (f : Int), .i (f : Int)]) := by
      rw [en]
      rcases hone with ⟨c, d⟩ | ⟨c, d⟩
      · rw [if_pos c]
        exact ⟨0, by rw [d]⟩
      · rw [if_neg c]
        exact ⟨A / 16, by rw [show min (A / 16 + 1) (N - 1) = A / 16 by omega]⟩
    obtain ⟨f, en'⟩ := en'
    clear en
    have en := en'
    have heq : (f : Int) = (f : Int) := rfl
    have eone := one_1 [0, 0, 0, 0] (ownV F (A / 16)) (A % 16) hr rfl hol
    rw [g0_at _ hr, rnd_0] at eone
    rw [hw] at ex
    generalize ownV F (A / 16) = O at *
    generalize tbl 16 _ = t1 at *
    simp -implicitDefEqProofs only [g6, g6_2, z32, z16, asI_i, asN_n, asL_l, asB_b, asE_nil, Bool.cond_decide, e1, altK_3, fewG_z, lap_new', TT_len, Nat.zero_add, Nat.le_refl, if_true, TT_drop, List.append_nil, TT_32, altK_0, altK_1, wN, e3, one_2, altK_2, ne_eq, not_true_eq_false, if_false, awakeL_ok, if_neg (Int.not_lt.2 ha), if_neg (Int.not_le.2 hb), wd, wm, if_pos (show (0 : Int) ≤ ((A / 16 : Nat) : Int) ∧ ((A / 16 : Nat) : Int) < N by omega), Int.toNat_natCast, hXl, if_pos (show A / 16 * 16 + 16 ≤ 16 * N by omega), eb, TT_hi, eo, hol, show List.drop 16 ([0, 0, 0, 0, 0, 0, 0, 0, 0, 0, 0, 0, 0, 0, 0, 0] : List Int) = [] from rfl, if_pos (show (0 : Int) ≤ (A : Int) ∧ (A : Int) < ((16 * N : Nat) : Int) from ⟨ha, hb⟩), optK_some, en, if_neg (show ¬ ((A / 16 : Nat) : Int) < 0 by omega), if_pos heq, eone, ex]
  · obtain ⟨k, hkk, hk, f, t, en', hne, hkf⟩ : ∃ k : Nat, (A % 16 < 8 ∧ 1 ≤ A / 16 ∧ k = A / 16 - 1 ∨ ¬ A % 16 < 8 ∧ A / 16 + 1 < N ∧ k = A / 16 + 1) ∧ k < N ∧ ∃ f t : Nat, g24 (0, [.i (A : Int), .i (N : Int)]) = some (0, [.i (f : Int), .i (t : Int)]) ∧ ¬ (f : Int) = (t : Int) ∧ f + t = A / 16 + k := by
      by_cases c : A % 16 < 8
      · rw [if_pos c] at en
        exact ⟨A / 16 - 1, .inl ⟨c, by omega, rfl⟩, by omega, A / 16 - 1, A / 16, en, by omega, by omega⟩
      · rw [if_neg c, show min (A / 16 + 1) (N - 1) = A / 16 + 1 by omega] at en
        exact ⟨A / 16 + 1, .inr ⟨c, by omega, rfl⟩, by omega, A / 16, A / 16 + 1, en, by omega, by omega⟩
    clear en
    have en := en'
    have hw := wh_two N F A k hA hkk
    have wk : IntKind.i64.wrap (IntKind.i64.wrap ((f : Int) + (t : Int)) - ((A / 16 : Nat) : Int)) = (k : Int) := by
      rw [show IntKind.i64.wrap ((f : Int) + (t : Int)) = (f : Int) + (t : Int) from wrap64 (by omega) (by omega), wrap64 (by omega) (by omega)]
      omega
    have hpl := own_len F k
    have ep := hown k
    have epb := hblk k hk
    have eone := one_0 [0, 0, 0, 0] (ownV F (A / 16)) (ownV F k) (A % 16) hr rfl hol hpl
    have e16 := one_16 [0, 0, 0, 0] (ownV F (A / 16)) (ownV F k)
    rw [g0_at _ hr, rnd_0] at eone
    rw [hw] at ex
    generalize ownV F k = V at *
    generalize ownV F (A / 16) = O at *
    generalize tbl 16 _ = t1 at *
    generalize tbl 16 _ = t2 at *
    simp -implicitDefEqProofs only [g6, g6_2, z32, z16, asI_i, asN_n, asL_l, asB_b, asE_nil, Bool.cond_decide, e1, altK_3, fewG_z, lap_new', TT_len, Nat.zero_add, Nat.le_refl, if_true, TT_drop, List.append_nil, TT_32, altK_0, altK_1, wN, e3, one_2, altK_2, ne_eq, not_true_eq_false, if_false, awakeL_ok, if_neg (Int.not_lt.2 ha), if_neg (Int.not_le.2 hb), wd, wm, if_pos (show (0 : Int) ≤ ((A / 16 : Nat) : Int) ∧ ((A / 16 : Nat) : Int) < N by omega), Int.toNat_natCast, hXl, if_pos (show A / 16 * 16 + 16 ≤ 16 * N by omega), eb, TT_hi, eo, hol, show List.drop 16 ([0, 0, 0, 0, 0, 0, 0, 0, 0, 0, 0, 0, 0, 0, 0, 0] : List Int) = [] from rfl, if_pos (show (0 : Int) ≤ (A : Int) ∧ (A : Int) < ((16 * N : Nat) : Int) from ⟨ha, hb⟩), optK_some, en, if_neg (show ¬ ((A / 16 : Nat) : Int) < 0 by omega), if_neg hne, wk, if_neg (show ¬ (k : Int) < 0 by omega), if_neg (show ¬ (N : Int) ≤ (k : Int) by omega), if_pos (show (0 : Int) ≤ (k : Int) ∧ (k : Int) < N by omega), if_pos (show k * 16 + 16 ≤ 16 * N by omega), epb, ep, hpl, eone, ex, e16]
theorem on_0g (m : Nat) (l G : List Int) (hG : G.length = 4 * m) (h1 : 1 ≤ m) (hm : m < 9223372036854775808) (a : Int) : g6 (0, [.n 0, .n m, .i a, .l l, .l G]) = some (0, [.b true, .l l, .l G]) := by
  have e2 := fewG_ok m G hG h1 hm
  generalize min 20 m = q at *
  generalize gL G q = H at *
  rcases Int.lt_or_le a 0 with ha | ha
  · simp -implicitDefEqProofs only [g6, g6_0, asI_i, asN_n, asL_l, asB_b, asE_nil, Bool.cond_decide, sm_0, altK_0, e2, altK_3, if_pos ha]
    show (_ : Option (Nat × List Leaf)) = _
    kernel_rfl
  · simp -implicitDefEqProofs only [g6, g6_0, asI_i, asN_n, asL_l, asB_b, asE_nil, Bool.cond_decide, sm_0, altK_0, e2, altK_3, if_neg (Int.not_lt.2 ha), if_pos ha]
    show (_ : Option (Nat × List Leaf)) = _
    kernel_rfl
theorem on_00 (l G : List Int) (a : Int) : g6 (0, [.n 0, .n 0, .i a, .l l, .l G]) = some (0, [.b true, .l l, .l G]) := by
  rcases Int.lt_or_le a 0 with ha | ha
  · simp -implicitDefEqProofs only [g6, g6_0, asI_i, asN_n, asL_l, asB_b, asE_nil, Bool.cond_decide, sm_0, altK_0, fewG_0, if_pos ha]
    show (_ : Option (Nat × List Leaf)) = _
    kernel_rfl
  · simp -implicitDefEqProofs only [g6, g6_0, asI_i, asN_n, asL_l, asB_b, asE_nil, Bool.cond_decide, sm_0, altK_0, fewG_0, if_neg (Int.not_lt.2 ha), if_pos ha]
    show (_ : Option (Nat × List Leaf)) = _
    kernel_rfl
theorem on_0n (l : List Int) (a : Int) : g6 (1, [.n 0, .i a, .l l]) = some (1, [.b true, .l l]) := by
  rcases Int.lt_or_le a 0 with ha | ha
  · simp -implicitDefEqProofs only [g6, g6_1, asI_i, asN_n, asL_l, asB_b, asE_nil, Bool.cond_decide, sm_0, altK_0, if_pos ha]
    show (_ : Option (Nat × List Leaf)) = _
    kernel_rfl
  · simp -implicitDefEqProofs only [g6, g6_1, asI_i, asN_n, asL_l, asB_b, asE_nil, Bool.cond_decide, sm_0, altK_0, if_neg (Int.not_lt.2 ha), if_pos ha]
    show (_ : Option (Nat × List Leaf)) = _
    kernel_rfl
theorem on_0d (l : List Int) (a : Int) : g6 (2, [.n 0, .n 0, .i a, .l l]) = some (2, [.b true, .l l]) := by
  rcases Int.lt_or_le a 0 with ha | ha
  · simp -implicitDefEqProofs only [g6, g6_2, asI_i, asN_n, asL_l, asB_b, asE_nil, Bool.cond_decide, sm_0, altK_0, if_pos ha]
    show (_ : Option (Nat × List Leaf)) = _
    kernel_rfl
  · simp -implicitDefEqProofs only [g6, g6_2, asI_i, asN_n, asL_l, asB_b, asE_nil, Bool.cond_decide, sm_0, altK_0, if_neg (Int.not_lt.2 ha), if_pos ha]
    show (_ : Option (Nat × List Leaf)) = _
    kernel_rfl
theorem on_ng (m : Nat) (G : List Int) (hG : G.length = 4 * m) (h1 : 1 ≤ m) (hm : m < 9223372036854775808) (a : Int) : g6 (3, [.n m, .i a, .l G]) = some (1, [.b true, .l G]) := by
  have e2 := fewG_ok m G hG h1 hm
  generalize min 20 m = q at *
  generalize gL G q = H at *
  rcases Int.lt_or_le a 0 with ha | ha
  · simp -implicitDefEqProofs only [g6, g6_3, asI_i, asN_n, asL_l, asB_b, asE_nil, Bool.cond_decide, sm_nil, altK_1, e2, altK_3, if_pos ha]
    show (_ : Option (Nat × List Leaf)) = _
    kernel_rfl
  · simp -implicitDefEqProofs only [g6, g6_3, asI_i, asN_n, asL_l, asB_b, asE_nil, Bool.cond_decide, sm_nil, altK_1, e2, altK_3, if_neg (Int.not_lt.2 ha), if_pos ha]
    show (_ : Option (Nat × List Leaf)) = _
    kernel_rfl
theorem on_n0 (G : List Int) (a : Int) : g6 (3, [.n 0, .i a, .l G]) = some (1, [.b true, .l G]) := by
  rcases Int.lt_or_le a 0 with ha | ha
  · simp -implicitDefEqProofs only [g6, g6_3, asI_i, asN_n, asL_l, asB_b, asE_nil, Bool.cond_decide, sm_nil, altK_1, fewG_0, altK_0, if_pos ha]
    show (_ : Option (Nat × List Leaf)) = _
    kernel_rfl
  · simp -implicitDefEqProofs only [g6, g6_3, asI_i, asN_n, asL_l, asB_b, asE_nil, Bool.cond_decide, sm_nil, altK_1, fewG_0, altK_0, if_neg (Int.not_lt.2 ha), if_pos ha]
    show (_ : Option (Nat × List Leaf)) = _
    kernel_rfl
theorem on_dg (m : Nat) (G : List Int) (hG : G.length = 4 * m) (h1 : 1 ≤ m) (hm : m < 9223372036854775808) (a : Int) : g6 (6, [.n m, .i a, .l G]) = some (5, [.b true, .l G]) := by
  have e2 := fewG_ok m G hG h1 hm
  generalize min 20 m = q at *
  generalize gL G q = H at *
  rcases Int.lt_or_le a 0 with ha | ha
  · simp -implicitDefEqProofs only [g6, g6_6, asI_i, asN_n, asL_l, asB_b, asE_nil, Bool.cond_decide, sm_z, altK_2, e2, altK_3, if_pos ha]
    show (_ : Option (Nat × List Leaf)) = _
    kernel_rfl
  · simp -implicitDefEqProofs only [g6, g6_6, asI_i, asN_n, asL_l, asB_b, asE_nil, Bool.cond_decide, sm_z, altK_2, e2, altK_3, if_neg (Int.not_lt.2 ha), if_pos ha]
    show (_ : Option (Nat × List Leaf)) = _
    kernel_rfl
theorem on_d0 (G : List Int) (a : Int) : g6 (6, [.n 0, .i a, .l G]) = some (5, [.b true, .l G]) := by
  rcases Int.lt_or_le a 0 with ha | ha
  · simp -implicitDefEqProofs only [g6, g6_6, asI_i, asN_n, asL_l, asB_b, asE_nil, Bool.cond_decide, sm_z, altK_2, fewG_0, altK_0, if_pos ha]
    show (_ : Option (Nat × List Leaf)) = _
    kernel_rfl
  · simp -implicitDefEqProofs only [g6, g6_6, asI_i, asN_n, asL_l, asB_b, asE_nil, Bool.cond_decide, sm_z, altK_2, fewG_0, altK_0, if_neg (Int.not_lt.2 ha), if_pos ha]
    show (_ : Option (Nat × List Leaf)) = _
    kernel_rfl
theorem on_nn  (a : Int) : g6 (4, [.i a]) = some (3, [.b true]) := by
  rcases Int.lt_or_le a 0 with ha | ha
  · simp -implicitDefEqProofs only [g6, g6_4, z32, z16, asI_i, asN_n, asL_l, asB_b, asE_nil, Bool.cond_decide, if_pos ha]
    show (_ : Option (Nat × List Leaf)) = _
    kernel_rfl
  · simp -implicitDefEqProofs only [g6, g6_4, z32, z16, asI_i, asN_n, asL_l, asB_b, asE_nil, Bool.cond_decide, if_neg (Int.not_lt.2 ha), if_pos ha]
    show (_ : Option (Nat × List Leaf)) = _
    kernel_rfl
theorem on_nd  (a : Int) : g6 (5, [.n 0, .i a]) = some (4, [.b true]) := by
  rcases Int.lt_or_le a 0 with ha | ha
  · simp -implicitDefEqProofs only [g6, g6_5, z32, z16, asI_i, asN_n, asL_l, asB_b, asE_nil, Bool.cond_decide, if_pos ha]
    show (_ : Option (Nat × List Leaf)) = _
    kernel_rfl
  · simp -implicitDefEqProofs only [g6, g6_5, z32, z16, asI_i, asN_n, asL_l, asB_b, asE_nil, Bool.cond_decide, if_neg (Int.not_lt.2 ha), if_pos ha]
    show (_ : Option (Nat × List Leaf)) = _
    kernel_rfl
theorem on_dn  (a : Int) : g6 (7, [.i a]) = some (4, [.b true]) := by
  rcases Int.lt_or_le a 0 with ha | ha
  · simp -implicitDefEqProofs only [g6, g6_7, z32, z16, asI_i, asN_n, asL_l, asB_b, asE_nil, Bool.cond_decide, if_pos ha]
    show (_ : Option (Nat × List Leaf)) = _
    kernel_rfl
  · simp -implicitDefEqProofs only [g6, g6_7, z32, z16, asI_i, asN_n, asL_l, asB_b, asE_nil, Bool.cond_decide, if_neg (Int.not_lt.2 ha), if_pos ha]
    show (_ : Option (Nat × List Leaf)) = _
    kernel_rfl
theorem on_dd  (a : Int) : g6 (8, [.n 0, .i a]) = some (6, [.b true]) := by
  rcases Int.lt_or_le a 0 with ha | ha
  · simp -implicitDefEqProofs only [g6, g6_8, z32, z16, asI_i, asN_n, asL_l, asB_b, asE_nil, Bool.cond_decide, if_pos ha]
    show (_ : Option (Nat × List Leaf)) = _
    kernel_rfl
  · simp -implicitDefEqProofs only [g6, g6_8, z32, z16, asI_i, asN_n, asL_l, asB_b, asE_nil, Bool.cond_decide, if_neg (Int.not_lt.2 ha), if_pos ha]
    show (_ : Option (Nat × List Leaf)) = _
    kernel_rfl
theorem on_ev_ll (l : List Int) (n : Nat) (hn : l.length = n * 16) (hm : n ≤ maxLen) (g : List Int) (m : Nat) (hg : g.length = m * 4) (hm' : m ≤ maxLen) (a : Int) : ∃ d, evF tab d 6 [.slice 0 0 n 16, .slice 1 0 m 4, .int .i64 a] [⟨false, .ints .i64 l⟩, ⟨false, .ints .i64 g⟩] = some (.bool true, [⟨false, .ints .i64 l⟩, ⟨false, .ints .i64 g⟩], []) := by
  have h : g6 (0, [.n n, .n m, .i a, .l l, .l g]) = some (0, [.b true, .l l, .l g]) := by
    unfold maxLen at *
    by_cases c : n = 0
    · subst c
      by_cases c' : m = 0
      · subst c'
        exact on_00 l g a
      · exact on_0g m l g (by omega) (by omega) (by omega) a
    · by_cases c' : m = 0
      · subst c'
        exact on_l0 n l g (by omega) (by omega) (by omega) a
      · exact on_lg n m l g (by omega) (by omega) (by omega) (by omega) (by omega) (by omega) a
  exact ⟨_, (ok6 0).ret (i := 0) (ls := [.n n, .n m, .i a, .l l, .l g]) (j := 0) (r := [.b true, .l l, .l g]) h rfl rfl rfl rfl⟩
theorem on_ev_ln (l : List Int) (n : Nat) (hn : l.length = n * 16) (hm : n ≤ maxLen) (a : Int) : ∃ d, evF tab d 6 [.slice 0 0 n 16, .nils, .int .i64 a] [⟨false, .ints .i64 l⟩] = some (.bool true, [⟨false, .ints .i64 l⟩], []) := by
  have h : g6 (1, [.n n, .i a, .l l]) = some (1, [.b true, .l l]) := by
    unfold maxLen at *
    by_cases c : n = 0
    · subst c
      exact on_0n l a
    · exact on_ln n l (by omega) (by omega) (by omega) a
  exact ⟨_, (ok6 0).ret (i := 1) (ls := [.n n, .i a, .l l]) (j := 1) (r := [.b true, .l l]) h rfl rfl rfl rfl⟩
theorem on_ev_ld (l : List Int) (n : Nat) (hn : l.length = n * 16) (hm : n ≤ maxLen) (a : Int) : ∃ d, evF tab d 6 [.slice 0 0 n 16, .slice 1 0 0 4, .int .i64 a] [⟨false, .ints .i64 l⟩, ⟨true, .unk⟩] = some (.bool true, [⟨false, .ints .i64 l⟩, ⟨true, .unk⟩], []) := by
  have h : g6 (2, [.n n, .n 0, .i a, .l l]) = some (2, [.b true, .l l]) := by
    unfold maxLen at *
    by_cases c : n = 0
    · subst c
      exact on_0d l a
    · exact on_ld n l (by omega) (by omega) (by omega) a
  exact ⟨_, (ok6 0).ret (i := 2) (ls := [.n n, .n 0, .i a, .l l]) (j := 2) (r := [.b true, .l l]) h rfl rfl rfl rfl⟩
theorem on_ev_nl (g : List Int) (m : Nat) (hg : g.length = m * 4) (hm' : m ≤ maxLen) (a : Int) : ∃ d, evF tab d 6 [.nils, .slice 0 0 m 4, .int .i64 a] [⟨false, .ints .i64 g⟩] = some (.bool true, [⟨false, .ints .i64 g⟩], []) := by
  have h : g6 (3, [.n m, .i a, .l g]) = some (1, [.b true, .l g]) := by
    unfold maxLen at *
    by_cases c : m = 0
    · subst c
      exact on_n0 g a
    · exact on_ng m g (by omega) (by omega) (by omega) a
  exact ⟨_, (ok6 0).ret (i := 3) (ls := [.n m, .i a, .l g]) (j := 1) (r := [.b true, .l g]) h rfl rfl rfl rfl⟩
theorem on_ev_nn  (a : Int) : ∃ d, evF tab d 6 [.nils, .nils, .int .i64 a] [] = some (.bool true, [], []) := by
  have h : g6 (4, [.i a]) = some (3, [.b true]) := by
    exact on_nn a
  exact ⟨_, (ok6 0).ret (i := 4) (ls := [.i a]) (j := 3) (r := [.b true]) h rfl rfl rfl rfl⟩
theorem on_ev_nd  (a : Int) : ∃ d, evF tab d 6 [.nils, .slice 0 0 0 4, .int .i64 a] [⟨true, .unk⟩] = some (.bool true, [⟨true, .unk⟩], []) := by
  have h : g6 (5, [.n 0, .i a]) = some (4, [.b true]) := by
    exact on_nd a
  exact ⟨_, (ok6 0).ret (i := 5) (ls := [.n 0, .i a]) (j := 4) (r := [.b true]) h rfl rfl rfl rfl⟩
theorem on_ev_dl (g : List Int) (m : Nat) (hg : g.length = m * 4) (hm' : m ≤ maxLen) (a : Int) : ∃ d, evF tab d 6 [.slice 0 0 0 16, .slice 1 0 m 4, .int .i64 a] [⟨true, .unk⟩, ⟨false, .ints .i64 g⟩] = some (.bool true, [⟨true, .unk⟩, ⟨false, .ints .i64 g⟩], []) := by
  have h : g6 (6, [.n m, .i a, .l g]) = some (5, [.b true, .l g]) := by
    unfold maxLen at *
    by_cases c : m = 0
    · subst c
      exact on_d0 g a
    · exact on_dg m g (by omega) (by omega) (by omega) a
  exact ⟨_, (ok6 0).ret (i := 6) (ls := [.n m, .i a, .l g]) (j := 5) (r := [.b true, .l g]) h rfl rfl rfl rfl⟩
theorem on_ev_dn  (a : Int) : ∃ d, evF tab d 6 [.slice 0 0 0 16, .nils, .int .i64 a] [⟨true, .unk⟩] = some (.bool true, [⟨true, .unk⟩], []) := by
  have h : g6 (7, [.i a]) = some (4, [.b true]) := by
    exact on_dn a
  exact ⟨_, (ok6 0).ret (i := 7) (ls := [.i a]) (j := 4) (r := [.b true]) h rfl rfl rfl rfl⟩
theorem on_ev_dd  (a : Int) : ∃ d, evF tab d 6 [.slice 0 0 0 16, .slice 1 0 0 4, .int .i64 a] [⟨true, .unk⟩, ⟨true, .unk⟩] = some (.bool true, [⟨true, .unk⟩, ⟨true, .unk⟩], []) := by
  have h : g6 (8, [.n 0, .i a]) = some (6, [.b true]) := by
    exact on_dd a
  exact ⟨_, (ok6 0).ret (i := 8) (ls := [.n 0, .i a]) (j := 6) (r := [.b true]) h rfl rfl rfl rfl⟩
end Go.Proofs.Ytmmfgbifbbiihaa