/-
  What any samples are at any place. Conditions: none.
-/
import Derived.Test.YtkbjemencmaloaaNumc
namespace Go.Proofs.Ytkbjemencmaloaa
open Go Go.Sx
set_option maxRecDepth 100000
set_option linter.unusedVariables false
attribute [local simp] asI_i asB_b asL_l asN_n asS_s asE_nil altK_none altK_0 altK_1 altK_2 altK_3 optK_some optK_none Bool.cond_decide Bool.cond_not Int.toNat_natCast
set_option linter.unusedSimpArgs false
def fewV : List Int → List Int := fewL 200 (fun x => Int.tmod x 1048577)
theorem few_ok (l : List Int) (n : Nat) (hn : l.length = n) (h1 : 1 ≤ n) (hm : n < 9223372036854775808) : g11 (0, [.n n, .l l]) = some (1, [.n (min 200 n), .l l, .l (fewV l)]) := by
  have hl : L11_0 (0, [.n n, .i 0, .l l]) = some (1, [.n (min 200 n), .l l, .l (fewV l)]) := by
    refine few_loop (f := f11_0) 200 (fun x => Int.tmod x 1048577) l n hn h1 (by omega) (by omega) ?_ (fun k L k1 k2 k3 hL => ?_) (fun k L k1 k2 k3 hL => ?_)
    · have hx : l[Int.toNat 0]? = some (l.getD 0 0) := get_some (l := l) (i := 0) (by omega)
      have w : IntKind.i64.wrap ((0 : Int) + 1) = 1 := wrap_nat (n := 1) (by omega)
      simp -implicitDefEqProofs only [f11_0, f11_0_0, asN_n, asI_i, asL_l, asE_nil, Bool.cond_decide, if_pos (show (0 : Int) < n by omega), if_pos (show (0 : Int) < 200 by omega), if_pos (show (0 : Int) ≤ 0 ∧ (0 : Int) < n by omega), hx, optK_some, w]
    · have hx := get_some (l := l) (i := k) (by omega)
      have w : IntKind.i64.wrap ((k : Int) + 1) = ((k + 1 : Nat) : Int) := wrap_nat (n := k + 1) (by omega)
      simp -implicitDefEqProofs only [f11_0, f11_0_1, asN_n, asI_i, asL_l, asE_nil, Bool.cond_decide, if_pos (show (k : Int) < n by omega), if_pos (show (k : Int) < 200 by omega), if_pos (show (0 : Int) ≤ k ∧ (k : Int) < n by omega), Int.toNat_natCast, hx, optK_some, w, if_pos (show (k + 1) * 8 ≤ 70368744177664 by omega), if_pos (show L.length = k * 1 by omega)]
    · simp -implicitDefEqProofs only [f11_0, f11_0_1, asN_n, asI_i, asL_l, asE_nil, Bool.cond_decide]
      by_cases c : (k : Int) < n
      · rw [if_pos c, if_neg (by omega)]
      · rw [if_neg c]
  simp -implicitDefEqProofs only [g11, g11_0, asN_n, asL_l, asE_nil, hl, altK_1]
theorem few_0 (l : List Int) : g11 (0, [.n 0, .l l]) = some (0, [.l l]) := by
  have hl : L11_0 (0, [.n 0, .i 0, .l l]) = some (0, [.l l]) := loopL_last (m := 2) (f := f11_0) (j := 0) (by
    simp -implicitDefEqProofs only [f11_0, f11_0_0, asN_n, asI_i, asL_l, asE_nil, Bool.cond_decide, if_neg (show ¬ (0 : Int) < ((0 : Nat) : Int) by omega)])
  simp -implicitDefEqProofs only [g11, g11_0, asN_n, asL_l, asE_nil, hl, altK_0]
theorem fewV_len (l : List Int) : (fewV l).length = min 200 l.length := fewL_len _ _ _
theorem fewV_in (l : List Int) (k : Nat) : -1048576 ≤ (fewV l).getD k 0 ∧ (fewV l).getD k 0 ≤ 1048576 := by
  by_cases h : k < (fewV l).length
  · have hx := get_some h
    have hm := List.mem_of_getElem? hx
    unfold fewV fewL at hm
    rw [List.mem_map] at hm
    obtain ⟨x, _, e⟩ := hm
    rw [show (fewV l).getD k 0 = Int.tmod x 1048577 from e.symm]
    have a1 := Int.tmod_lt_of_pos x (show (0 : Int) < 1048577 by omega)
    have a2 : -1048577 < Int.tmod x 1048577 := Int.lt_tmod_of_pos x (by omega)
    omega
  · have : (fewV l).getD k 0 = 0 := by simp [List.getElem?_eq_none (show (fewV l).length ≤ k by omega)]
    omega
/-- What four samples are at a phase, whatever it is. -/
def blend (xs : List Int) (q : Int) : Int := match g18 (0, [.l xs, .i q]) with
  | some (_, .i w :: _) => w
  | _ => 0
theorem taps_ok (q : Int) : ∃ t0 t1 t2 t3, g24 (0, [.i q]) = some (0, [.i t0, .i t1, .i t2, .i t3]) := by
  simp -implicitDefEqProofs only [g24, g24_0, asI_i, asE_nil, Bool.cond_decide]
  by_cases c : q < 0
  · rw [if_pos c]; exact ⟨_, _, _, _, rfl⟩
  · rw [if_neg c]
    by_cases d : 32 ≤ q
    · rw [if_pos d]; exact ⟨_, _, _, _, rfl⟩
    · rw [if_neg d]; exact ⟨_, _, _, _, rfl⟩
def accB (t xs : List Int) : Nat → Int
  | 0 => 0
  | k + 1 => IntKind.i64.wrap (accB t xs k + IntKind.i64.wrap (t.getD k 0 * xs.getD k 0))
theorem accB_in (t xs : List Int) : ∀ k, In64 (accB t xs k)
  | 0 => by unfold In64 accB; omega
  | k + 1 => wrap_in _
theorem blend_at (xs : List Int) (hx : xs.length = 4) (q t0 t1 t2 t3 : Int) (ht : g24 (0, [.i q]) = some (0, [.i t0, .i t1, .i t2, .i t3])) :
    g18 (0, [.l xs, .i q]) = some (0, [.i (satV ((accB [t0, t1, t2, t3] xs 4 + 32768) / 65536))]) := by
  have hl : L18_0 (0, [.i 0, .i t0, .i t1, .i t2, .i t3, .i 0, .l xs]) = some (0, [.i (accB [t0, t1, t2, t3] xs 4), .l xs]) := by
    refine loop1_run (f := f18_0) (fun k => [.i (accB [t0, t1, t2, t3] xs k), .i t0, .i t1, .i t2, .i t3, .i k, .l xs]) 4 (fun k hk => ?_) ?_ (by omega)
    · have h1 := get_some (l := xs) (i := k) (by omega)
      have h2 := get_some (l := [t0, t1, t2, t3]) (i := k) (by simpa using hk)
      have e : accB [t0, t1, t2, t3] xs (k + 1) = IntKind.i64.wrap (accB [t0, t1, t2, t3] xs k + IntKind.i64.wrap ([t0, t1, t2, t3].getD k 0 * xs.getD k 0)) := rfl
      rw [e]
      generalize [t0, t1, t2, t3].getD k 0 = x at *
      generalize xs.getD k 0 = y at *
      generalize accB [t0, t1, t2, t3] xs k = s at *
      have w : IntKind.i64.wrap ((k : Int) + 1) = ((k + 1 : Nat) : Int) := wrap_nat (n := k + 1) (by omega)
      have k1 : (k : Int) < 4 := by omega
      have k2 : (0 : Int) ≤ k ∧ (k : Int) < 4 := by omega
      simp -implicitDefEqProofs only [f18_0, f18_0_0, asI_i, asL_l, asE_nil, Bool.cond_decide, if_pos k1, if_pos k2, Int.toNat_natCast, h1, h2, optK_some, w]
    · simp -implicitDefEqProofs only [f18_0, f18_0_0, asI_i, asL_l, asE_nil, Bool.cond_decide, if_neg (show ¬ ((4 : Nat) : Int) < 4 by omega)]
  have hr := round16 (accB [t0, t1, t2, t3] xs 4) (accB_in _ _ 4)
  simp -implicitDefEqProofs only [g18, g18_0, asI_i, asL_l, asE_nil, ht, altK_0, hl, hr, sat_ok]
theorem blend_ok (xs : List Int) (hx : xs.length = 4) (q : Int) : g18 (0, [.l xs, .i q]) = some (0, [.i (blend xs q)]) := by
  obtain ⟨t0, t1, t2, t3, ht⟩ := taps_ok q
  have e := blend_at xs hx q t0 t1 t2 t3 ht
  unfold blend
  rw [e]
theorem blend_0 (a b c d : Int) (hb : -1048576 ≤ b ∧ b ≤ 1048576) : blend [a, b, c, d] 0 = satV b := by
  have ht : g24 (0, [.i 0]) = some (0, [.i 0, .i 65536, .i 0, .i 0]) := by kernel_rfl
  have e := blend_at [a, b, c, d] rfl 0 0 65536 0 0 ht
  have e2 := blend_ok [a, b, c, d] rfl 0
  rw [e] at e2
  simp only [Option.some.injEq, Prod.mk.injEq, List.cons.injEq, Leaf.i.injEq, true_and, and_true] at e2
  rw [← e2]
  have z : IntKind.i64.wrap 0 = 0 := wrap64 (by omega) (by omega)
  have w : IntKind.i64.wrap (65536 * b) = 65536 * b := wrap64 (by omega) (by omega)
  have s : accB [0, 65536, 0, 0] [a, b, c, d] 4 = 65536 * b := by
    show IntKind.i64.wrap (IntKind.i64.wrap (IntKind.i64.wrap (IntKind.i64.wrap (0 + IntKind.i64.wrap (0 * a)) + IntKind.i64.wrap (65536 * b)) + IntKind.i64.wrap (0 * c)) + IntKind.i64.wrap (0 * d)) = 65536 * b
    simp only [Int.zero_mul, z, Int.add_zero, Int.zero_add, w]
  rw [s]
  congr 1
  omega
def getV (l : List Int) (n : Nat) (i : Int) : Int := l.getD (if i < 0 then 0 else if (n : Int) ≤ i then n - 1 else i.toNat) 0
theorem get_ok (l : List Int) (n : Nat) (hn : l.length = n) (h1 : 1 ≤ n) (hm : n ≤ 1000000) (i : Int) : g17 (0, [.n n, .i i, .l l]) = some (0, [.i (getV l n i), .l l]) := by
  have w : IntKind.i64.wrap ((n : Int) - 1) = ((n - 1 : Nat) : Int) := by rw [wrap64 (by omega) (by omega)]; omega
  simp -implicitDefEqProofs only [g17, g17_0, asN_n, asI_i, asL_l, asE_nil, w]
  have key : (if (0 : Int) > (if ((n - 1 : Nat) : Int) < i then ((n - 1 : Nat) : Int) else i) then 0 else (if ((n - 1 : Nat) : Int) < i then ((n - 1 : Nat) : Int) else i)) = ((if i < 0 then 0 else if (n : Int) ≤ i then n - 1 else i.toNat : Nat) : Int) := by
    repeat' split
    all_goals omega
  rw [key]
  unfold getV
  generalize hj : (if i < 0 then 0 else if (n : Int) ≤ i then n - 1 else i.toNat : Nat) = j
  have hj2 : j < n := by
    rw [← hj]
    repeat' split
    all_goals omega
  have hx := get_some (l := l) (i := j) (by omega)
  simp -implicitDefEqProofs only [if_pos (show (0 : Int) ≤ (j : Int) ∧ (j : Int) < n by omega), Int.toNat_natCast, hx, optK_some]
theorem getL_ok (l : List Int) (n : Nat) (hn : l.length = n) (h1 : 1 ≤ n) (hm : n ≤ 1000000) (i : Int) : g20 (0, [.n n, .i i, .l l]) = some (0, [.i (getV l n i), .l l]) := by
  have w : IntKind.i64.wrap ((n : Int) - 1) = ((n - 1 : Nat) : Int) := by rw [wrap64 (by omega) (by omega)]; omega
  simp -implicitDefEqProofs only [g20, g20_0, asN_n, asI_i, asL_l, asE_nil, w, Bool.cond_decide]
  have hlast := get_some (l := l) (i := n - 1) (by omega)
  have hfirst := get_some (l := l) (i := 0) (by omega)
  unfold getV
  by_cases c : i < 0
  · simp -implicitDefEqProofs only [if_pos c, if_neg (show ¬ (n : Int) ≤ 0 by omega), if_pos (show (0 : Int) ≤ 0 ∧ (0 : Int) < n by omega), hfirst, optK_some]
  · by_cases d : (n : Int) ≤ i
    · simp -implicitDefEqProofs only [if_neg c, if_pos d, if_pos (show (0 : Int) ≤ ((n - 1 : Nat) : Int) ∧ ((n - 1 : Nat) : Int) < n by omega), Int.toNat_natCast, hlast, optK_some]
    · have hi := get_some (l := l) (i := i.toNat) (by omega)
      simp -implicitDefEqProofs only [if_neg c, if_neg d, if_pos (show (0 : Int) ≤ i ∧ i < n by omega), hi, optK_some]
def plcV (n : Nat) (p : Int) : Int := if (n : Int) ≤ p / 4294967296 then (n : Int) - 1 else p / 4294967296
def rAt (l : List Int) (n : Nat) (p : Int) : Int := if p < 0 then 0 else blend [getV l n (plcV n p - 1), getV l n (plcV n p), getV l n (plcV n p + 1), getV l n (plcV n p + 2)] (p / 134217728 % 32)
theorem shr32 (p : Int) : shrI .i64 p 32 = p / 4294967296 := by
  have := shr_pow p 32 (by omega)
  exact this
theorem and32 (p : Int) (h : 0 ≤ p ∧ p ≤ 9223372036854775807) : bAnd .i64 p 4294967295 = p % 4294967296 := by
  have e : (BitVec.ofInt 64 p &&& BitVec.ofInt 64 4294967295).toNat = (p % 4294967296).toNat := by
    rw [BitVec.toNat_and]
    simp only [BitVec.toNat_ofInt]
    have e2 : ((4294967295 : Int) % ((2 ^ 64 : Nat) : Int)).toNat = 2 ^ 32 - 1 := by decide
    rw [e2, Nat.and_two_pow_sub_one_eq_mod]
    have : p % ((2 ^ 64 : Nat) : Int) = p := Int.emod_eq_of_lt (by omega) (by omega)
    rw [this]
    omega
  unfold bAnd
  rw [show IntKind.i64.bits = 64 from rfl, e, wrap64 (by omega) (by omega)]
  omega
theorem phase_ok (p : Int) (h : 0 ≤ p ∧ p ≤ 9223372036854775807) : g19 (0, [.i p]) = some (0, [.i (p / 134217728 % 32)]) := by
  have e := shr_pow (p % 4294967296) 27 (by omega)
  have e2 : shrI .i64 (p % 4294967296) 27 = p % 4294967296 / 134217728 := e
  simp -implicitDefEqProofs only [g19, g19_0, asI_i, asE_nil, and32 p h, e2]
  rw [show p % 4294967296 / 134217728 = p / 134217728 % 32 by omega]
theorem at_ok (l : List Int) (n : Nat) (hn : l.length = n) (h1 : 1 ≤ n) (hm : n ≤ 1000000) (p : Int) (hp : In64 p) : g12 (0, [.n n, .i p, .l l]) = some (0, [.i (rAt l n p), .l l]) := by
  unfold In64 at hp
  simp -implicitDefEqProofs only [g12, g12_0, asN_n, asI_i, asL_l, asE_nil, Bool.cond_decide, if_neg (show ¬ (n : Int) = 0 by omega)]
  unfold rAt
  by_cases c : p < 0
  · rw [if_pos c, if_pos c]
  rw [if_neg c, if_neg c]
  have w : IntKind.i64.wrap ((n : Int) - 1) = (n : Int) - 1 := wrap64 (by omega) (by omega)
  have hi : (if (n : Int) - 1 < p / 4294967296 then (n : Int) - 1 else p / 4294967296) = plcV n p := by
    unfold plcV
    split <;> split <;> omega
  rw [w, shr32, hi]
  have hr : 0 ≤ plcV n p ∧ plcV n p < n := by
    unfold plcV
    split <;> omega
  generalize plcV n p = i at *
  have hl : L12_0 (0, [.n n, .i p, .i i, .i 0, .l l, .l [0, 0, 0, 0]]) = some (0, [.i p, .l l, .l [getV l n (i - 1), getV l n i, getV l n (i + 1), getV l n (i + 2)]]) := by
    have main := loop1_run (f := f12_0) (fun k => [.n n, .i p, .i i, .i k, .l l, .l (mix [getV l n (i - 1), getV l n i, getV l n (i + 1), getV l n (i + 2)] [0, 0, 0, 0] k)]) 4 (j := 0) (r := [.i p, .l l, .l [getV l n (i - 1), getV l n i, getV l n (i + 1), getV l n (i + 2)]]) (fun k hk => ?_) ?_ (by omega)
    · exact main
    · have k1 : (k : Int) < 4 := by omega
      have k2 : (0 : Int) ≤ k ∧ (k : Int) < 4 := by omega
      have w0 : IntKind.i64.wrap (i - 1) = i - 1 := wrap64 (by omega) (by omega)
      have w1 : IntKind.i64.wrap (i - 1 + k) = i - 1 + k := wrap64 (by omega) (by omega)
      have w2 : IntKind.i64.wrap ((k : Int) + 1) = ((k + 1 : Nat) : Int) := wrap_nat (n := k + 1) (by omega)
      have hg := get_ok l n hn h1 hm (i - 1 + k)
      have hv : ([getV l n (i - 1), getV l n i, getV l n (i + 1), getV l n (i + 2)] : List Int)[k]? = some (getV l n (i - 1 + k)) := by
        match k, hk with
        | 0, _ => simp
        | 1, _ => simp only [List.getElem?_cons_succ, List.getElem?_cons_zero]; congr 2; omega
        | 2, _ => simp only [List.getElem?_cons_succ, List.getElem?_cons_zero]; congr 2; omega
        | 3, _ => simp only [List.getElem?_cons_succ, List.getElem?_cons_zero]; congr 2; omega
      have hs := mix_set (v := [getV l n (i - 1), getV l n i, getV l n (i + 1), getV l n (i + 2)]) (q := [0, 0, 0, 0]) rfl (k := k) (by simpa using hk) hv
      have hlen : k < (mix [getV l n (i - 1), getV l n i, getV l n (i + 1), getV l n (i + 2)] [0, 0, 0, 0] k).length := by rw [mix_len (v := [getV l n (i - 1), getV l n i, getV l n (i + 1), getV l n (i + 2)]) (q := [0, 0, 0, 0]) rfl k]; simpa using hk
      simp -implicitDefEqProofs only [f12_0, f12_0_0, asN_n, asI_i, asL_l, asE_nil, Bool.cond_decide, if_pos k1, if_pos k2, w0, w1, w2, hg, altK_0, Int.toNat_natCast, if_pos hlen, hs]
    · have hall := mix_all (v := [getV l n (i - 1), getV l n i, getV l n (i + 1), getV l n (i + 2)]) (q := [0, 0, 0, 0]) rfl
      have hall : mix [getV l n (i - 1), getV l n i, getV l n (i + 1), getV l n (i + 2)] [0, 0, 0, 0] 4 = [getV l n (i - 1), getV l n i, getV l n (i + 1), getV l n (i + 2)] := hall
      simp -implicitDefEqProofs only [f12_0, f12_0_0, asN_n, asI_i, asL_l, asE_nil, Bool.cond_decide, if_neg (show ¬ ((4 : Nat) : Int) < 4 by omega), hall]
  have l4 : ([getV l n (i - 1), getV l n i, getV l n (i + 1), getV l n (i + 2)] : List Int).length = 4 := rfl
  have t4 : List.take 4 ([getV l n (i - 1), getV l n i, getV l n (i + 1), getV l n (i + 2)] : List Int) = [getV l n (i - 1), getV l n i, getV l n (i + 1), getV l n (i + 2)] := rfl
  simp -implicitDefEqProofs only [hl, altK_0, asI_i, asL_l, asE_nil, l4, t4, Nat.le_refl, if_true, phase_ok p (by omega), blend_ok _ l4]
theorem atL_ok (l : List Int) (n : Nat) (hn : l.length = n) (h1 : 1 ≤ n) (hm : n ≤ 1000000) (p : Int) (hp : In64 p) : g13 (0, [.n n, .i p, .l l]) = some (0, [.i (rAt l n p), .l l]) := by
  unfold In64 at hp
  simp -implicitDefEqProofs only [g13, g13_0, asN_n, asI_i, asL_l, asE_nil, Bool.cond_decide, if_neg (show ¬ (n : Int) = 0 by omega)]
  unfold rAt
  by_cases c : p < 0
  · rw [if_pos c, if_pos c]
  rw [if_neg c, if_neg c]
  have d1 : Int.tdiv p 4294967296 = p / 4294967296 := Int.tdiv_eq_ediv_of_nonneg (by omega)
  have d2 : Int.tdiv p 134217728 = p / 134217728 := Int.tdiv_eq_ediv_of_nonneg (by omega)
  have d3 : Int.tmod (p / 134217728) 32 = p / 134217728 % 32 := Int.tmod_eq_emod_of_nonneg (by omega)
  have v1 : IntKind.i64.wrap (p / 4294967296) = p / 4294967296 := wrap64 (by omega) (by omega)
  have v2 : IntKind.i64.wrap (p / 134217728) = p / 134217728 := wrap64 (by omega) (by omega)
  have w : IntKind.i64.wrap ((n : Int) - 1) = (n : Int) - 1 := wrap64 (by omega) (by omega)
  have hr : 0 ≤ plcV n p ∧ plcV n p < n := by
    unfold plcV
    split <;> omega
  rw [d1, d2, v1, v2, d3, w]
  have fin : ∀ i : Int, 0 ≤ i ∧ i < n → IntKind.i64.wrap (i - 1) = i - 1 ∧ IntKind.i64.wrap (i + 1) = i + 1 ∧ IntKind.i64.wrap (i + 2) = i + 2 := fun i hi => ⟨wrap64 (by omega) (by omega), wrap64 (by omega) (by omega), wrap64 (by omega) (by omega)⟩
  by_cases d : (n : Int) ≤ p / 4294967296
  · have e : plcV n p = (n : Int) - 1 := by unfold plcV; rw [if_pos d]
    rw [if_pos d, e]
    obtain ⟨f1, f2, f3⟩ := fin ((n : Int) - 1) (by omega)
    simp -implicitDefEqProofs only [f1, f2, f3, getL_ok l n hn h1 hm, altK_0, asI_i, asL_l, asE_nil, blend_ok [getV l n ((n : Int) - 1 - 1), getV l n ((n : Int) - 1), getV l n ((n : Int) - 1 + 1), getV l n ((n : Int) - 1 + 2)] rfl]
  · have e : plcV n p = p / 4294967296 := by unfold plcV; rw [if_neg d]
    rw [if_neg d, e]
    obtain ⟨f1, f2, f3⟩ := fin (p / 4294967296) (by omega)
    simp -implicitDefEqProofs only [f1, f2, f3, getL_ok l n hn h1 hm, altK_0, asI_i, asL_l, asE_nil, blend_ok [getV l n (p / 4294967296 - 1), getV l n (p / 4294967296), getV l n (p / 4294967296 + 1), getV l n (p / 4294967296 + 2)] rfl]
theorem rates (l : List Int) (n : Nat) (hn : l.length = n) (hm : n < 9223372036854775808) (p : Int) (hp : In64 p) : g4 (0, [.n n, .i p, .l l]) = some (0, [.b true, .l l]) := by
  by_cases h : n = 0
  · subst h
    have a1 : g12 (1, [.i p]) = some (1, [.i 0]) := rfl
    have a2 : g13 (1, [.i p]) = some (1, [.i 0]) := rfl
    simp -implicitDefEqProofs only [g4, g4_0, asN_n, asI_i, asL_l, asB_b, asE_nil, few_0, altK_0, a1, a2, altK_1, Bool.cond_decide, if_true, awakeL_ok]
  · have hlen : (fewV l).length = min 200 n := by rw [fewV_len, hn]
    simp -implicitDefEqProofs only [g4, g4_0, asN_n, asI_i, asL_l, asB_b, asE_nil, few_ok l n hn (by omega) hm, altK_1, at_ok (fewV l) (min 200 n) hlen (by omega) (by omega) p hp, altK_0, atL_ok (fewV l) (min 200 n) hlen (by omega) (by omega) p hp, Bool.cond_decide, if_true, awakeL_ok]
theorem rates_l (l : List Int) (n : Nat) (hl : l.length = n * 1) (hm : n ≤ maxLen) (p : Int) (w : (Lit.int .i64 p).wf = true) : ∃ d, evF tab d 4 [.slice 0 0 n 1, .int .i64 p] [⟨false, .ints .i64 l⟩] = some (.bool true, [⟨false, .ints .i64 l⟩], []) :=
  ⟨_, (ok4 0).ret (i := 0) (ls := [.n n, .i p, .l l]) (j := 0) (r := [.b true, .l l]) (rates l n (by omega) (by have : maxLen = 9223372036854775807 := rfl; omega) p (wf64 w)) rfl rfl rfl rfl⟩
theorem rates_n (p : Int) : evF tab 30 4 [.nils, .int .i64 p] [] = some (.bool true, [], []) := by kernel_rfl
theorem rates_d (p : Int) : evF tab 30 4 [.slice 0 0 0 1, .int .i64 p] [⟨true, .unk⟩] = some (.bool true, [⟨true, .unk⟩], []) := by kernel_rfl
end Go.Proofs.Ytkbjemencmaloaa
