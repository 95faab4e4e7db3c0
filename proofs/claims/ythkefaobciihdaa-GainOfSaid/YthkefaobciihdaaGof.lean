/-
  The law of a block's gains. Conditions: none.
-/
import Derived.Test.YthkefaobciihdaaGrights
namespace Go.Proofs.Ythkefaobciihdaa
open Go Go.Sx
set_option maxRecDepth 100000
set_option linter.unusedVariables false
attribute [local simp] asI_i asB_b asL_l asN_n asS_s asE_nil altK_none altK_0 altK_1 altK_2 altK_3 optK_some optK_none Bool.cond_decide Bool.cond_not Int.toNat_natCast
set_option linter.unusedSimpArgs false
def okN (l : List Int) (k : Nat) : Bool := decide (-1099511627776 ≤ l.getD k 0 ∧ l.getD k 0 ≤ 1099511627776)
def nearB (l : List Int) : Bool := (List.range 16).all (okN l)
theorem near5 (l : List Int) (h : l.length = 16) : g5 (0, [.l l]) = some (0, [.b (nearB l)]) := by
  have hl : L5_0 (0, [.i 0, .l l]) = if nearB l then some (0, [.l l]) else some (1, [.l l]) := by
    refine loop1_all (fun k => [.i k, .l l]) (okN l) 16 (fun k hk hp => ?_) (fun k hk hp => ?_) (by simp [f5_0, f5_0_0]) (by omega)
    all_goals
      have hx := get_some (l := l) (i := k) (by omega)
      have h1 : (k : Int) < 16 := by omega
      have h0 : (0 : Int) ≤ k ∧ (k : Int) < 16 := by omega
      have w2 : IntKind.i64.wrap ((k : Int) + 1) = ((k + 1 : Nat) : Int) := wrap_nat (n := k + 1) (by omega)
      generalize hxv : l.getD k 0 = x at hx
      simp only [okN, hxv, decide_eq_true_eq, decide_eq_false_iff_not] at hp
      simp only [f5_0, f5_0_0, asI_i, asL_l, asE_nil, Bool.cond_decide, if_pos h1, if_pos h0, Int.toNat_natCast, hx, optK_some, w2]
    · rw [if_neg (by omega), if_neg (by omega)]
    · by_cases hn : x < -1099511627776
      · rw [if_pos hn]
      · rw [if_neg hn, if_pos (by omega)]
  simp -implicitDefEqProofs only [g5, g5_0, asL_l, asE_nil, hl]
  cases nearB l <;> simp
theorem okN_of {l : List Int} (h : nearB l = true) {k : Nat} (hk : k < 16) : -1099511627776 ≤ l.getD k 0 ∧ l.getD k 0 ≤ 1099511627776 := by
  have := List.all_eq_true.1 h k (List.mem_range.2 hk)
  simpa [okN] using this
def dist (x : Int) : Int := if x < 0 then -x else x
/-- The peak of a part. -/
def pk (b : List Int) (o : Nat) : Nat → Int
  | 0 => 0
  | k + 1 => max (pk b o k) (dist (b.getD (k + o) 0))
theorem pk_range (b : List Int) (hn : nearB b = true) (o : Nat) : ∀ n, o + n ≤ 16 → 0 ≤ pk b o n ∧ pk b o n ≤ 1099511627776
  | 0, _ => ⟨Int.le_refl _, by show (0 : Int) ≤ _; omega⟩
  | n + 1, h => by
    have ih := pk_range b hn o n (by omega)
    have ob := okN_of hn (k := n + o) (by omega)
    have e : pk b o (n + 1) = max (pk b o n) (dist (b.getD (n + o) 0)) := rfl
    rw [e]
    generalize b.getD (n + o) 0 = x at *
    unfold dist
    split <;> omega
theorem pk_mono (b : List Int) (m : Nat) : ∀ n, pk b 0 m ≤ pk b 0 (n + m)
  | 0 => by rw [Nat.zero_add]; exact Int.le_refl _
  | n + 1 => by
    have ih := pk_mono b m n
    have e : pk b 0 (n + 1 + m) = max (pk b 0 (n + m)) (dist (b.getD (n + m + 0) 0)) := by rw [show n + 1 + m = (n + m) + 1 by omega]; rfl
    rw [e]; omega
theorem pk_part (b : List Int) (hn : nearB b = true) (o : Nat) : ∀ n, o + n ≤ 16 → pk b o n ≤ pk b 0 (n + o)
  | 0, h => by
    have := pk_range b hn 0 (0 + o) (by omega)
    exact this.1
  | n + 1, h => by
    have ih := pk_part b hn o n (by omega)
    have e : pk b o (n + 1) = max (pk b o n) (dist (b.getD (n + o) 0)) := rfl
    have e2 : pk b 0 (n + 1 + o) = max (pk b 0 (n + o)) (dist (b.getD (n + o + 0) 0)) := by rw [show n + 1 + o = (n + o) + 1 by omega]; rfl
    rw [e, e2, Nat.add_zero]; omega
theorem pk_top (b : List Int) (hn : nearB b = true) (o : Nat) (h : o + 4 ≤ 16) : pk b o 4 ≤ pk b 0 16 := by
  have h1 := pk_part b hn o 4 h
  have h2 := pk_mono b (4 + o) (16 - (4 + o))
  rw [show 16 - (4 + o) + (4 + o) = 16 by omega] at h2
  omega
theorem peak14 (b : List Int) (hb : b.length = 16) (hn : nearB b = true) (o n : Nat) (h : o + n ≤ 16) : g14 (0, [.n o, .n n, .l b]) = some (0, [.i (pk b o n), .l b]) := by
  have hl : L14_0 (0, [.i 0, .n o, .n n, .i n, .i 0, .l b]) = some (0, [.i (pk b o n), .l b]) := by
    refine loop1_run (f := f14_0) (fun k => [.i (pk b o k), .n o, .n n, .i n, .i k, .l b]) n (fun k hk => ?_) (by simp [f14_0, f14_0_0]) (by omega)
    have hx := get_some (l := b) (i := k + o) (by omega)
    have ob := okN_of hn (k := k + o) (by omega)
    have h1 : (k : Int) < n := by omega
    have h0 : (0 : Int) ≤ k ∧ (k : Int) < n := by omega
    have w2 : IntKind.i64.wrap ((k : Int) + 1) = ((k + 1 : Nat) : Int) := wrap_nat (n := k + 1) (by omega)
    have e1 : pk b o (k + 1) = max (pk b o k) (dist (b.getD (k + o) 0)) := rfl
    rw [e1]
    generalize b.getD (k + o) 0 = d at *
    have hab : g15 (0, [.i d]) = some (0, [.i (dist d)]) := by
      simp -implicitDefEqProofs only [g15, g15_0, asI_i, asE_nil, Bool.cond_decide]
      rw [if_neg (by omega)]
      unfold dist
      by_cases hd0 : d < 0
      · rw [if_pos hd0, if_pos hd0, wrap64 (by omega) (by omega)]
        congr 4
        omega
      · rw [if_neg hd0, if_neg hd0]
    have hm : (if dist d > pk b o k then dist d else pk b o k) = max (pk b o k) (dist d) := by split <;> omega
    simp -implicitDefEqProofs only [f14_0, f14_0_0, asN_n, asI_i, asL_l, asE_nil, Bool.cond_decide, if_pos h1, if_pos h0, Int.toNat_natCast, hx, optK_some, hab, altK_0, hm, w2]
  simp -implicitDefEqProofs only [g14, g14_0, asN_n, asL_l, asI_i, asE_nil, hl, altK_0]
theorem peak8 (b : List Int) (hb : b.length = 16) (hn : nearB b = true) (o n : Nat) (h : o + n ≤ 16) : g8 (0, [.l b, .i o, .i (o + n : Nat)]) = some (0, [.i (pk b o n)]) := by
  have hl : L8_0 (0, [.i (o + n : Nat), .i 0, .i o, .l b]) = some (0, [.i (pk b o n), .l b]) := by
    have := loop1_run (f := f8_0) (fun k => [.i (o + n : Nat), .i (pk b o k), .i (o + k : Nat), .l b]) n (j := 0) (r := [.i (pk b o n), .l b]) (fun k hk => ?_) (by simp [f8_0, f8_0_0]) (by omega)
    · exact this
    · have hx := get_some (l := b) (i := o + k) (by omega)
      have ob := okN_of hn (k := k + o) (by omega)
      have h1 : ((o + k : Nat) : Int) < (o + n : Nat) := by omega
      have h0 : (0 : Int) ≤ (o + k : Nat) ∧ ((o + k : Nat) : Int) < 16 := by omega
      have w2 : IntKind.i64.wrap (((o + k : Nat) : Int) + 1) = ((o + (k + 1) : Nat) : Int) := wrap_nat (n := o + (k + 1)) (by omega)
      have e1 : pk b o (k + 1) = max (pk b o k) (dist (b.getD (k + o) 0)) := rfl
      have pr := pk_range b hn o k (by omega)
      rw [e1]
      rw [Nat.add_comm k o] at *
      generalize b.getD (o + k) 0 = d at *
      have w3 : IntKind.i64.wrap (0 - d) = 0 - d := wrap64 (by omega) (by omega)
      simp -implicitDefEqProofs only [f8_0, f8_0_0, asI_i, asL_l, asE_nil, Bool.cond_decide, if_pos h1, if_pos h0, Int.toNat_natCast, hx, optK_some, w2, w3]
      unfold dist
      generalize pk b o k = F at *
      repeat' split
      all_goals
        simp only [Option.some.injEq, Prod.mk.injEq, List.cons.injEq, Leaf.i.injEq, true_and, and_true]
        omega
  simp -implicitDefEqProofs only [g8, g8_0, asL_l, asI_i, asE_nil, hl, altK_0]
/-- The gain of a part whose peak is p. -/
def gN (p top : Int) : Nat := if 0 < p then (if 2 * p ≤ top then (if 4 * p ≤ top then (if 8 * p ≤ top then 3 else 2) else 1) else 0) else 0
theorem gain_loop (b Z : List Int) (j : Nat) (hj : j < 4) (hZ : Z.length = 4) (hz : Z[j]? = some 0) (p top : Int) (hp : 0 ≤ p ∧ p ≤ 1099511627776) (ht : 0 ≤ top ∧ top ≤ 1099511627776) :
    L7_0 (0, [.i top, .i j, .i p, .i j, .l b, .i 0, .i 0, .i 0, .i 0, .l Z]) = some (0, [.i top, .i j, .l b, .i 0, .i 0, .i 0, .i 0, .l (Z.set j (gN p top))]) := by
  have hZ0 : Z.set j ((0 : Nat) : Int) = Z := by
    obtain ⟨hl, e⟩ := List.getElem?_eq_some_iff.1 hz
    have := List.set_getElem_self (i := j) hl
    rw [e] at this
    exact this
  have hj0 : (0 : Int) ≤ j ∧ (j : Int) < 4 := by omega
  have hlen : ∀ x : Int, j < (Z.set j x).length := fun x => by rw [List.length_set]; omega
  have hget : ∀ x : Int, (Z.set j x)[j]? = some x := fun x => get_set_eq (by omega) x
  have hset : ∀ x y : Int, (Z.set j x).set j y = Z.set j y := fun x y => List.set_set ..
  have s1 : shlI .i64 p 1 = 2 * p := by
    have : shlI .i64 p 1 = IntKind.i64.wrap (p * 2) := rfl
    rw [this, wrap64 (by omega) (by omega)]; omega
  have s2 : shlI .i64 p 2 = 4 * p := by
    have : shlI .i64 p 2 = IntKind.i64.wrap (p * 4) := rfl
    rw [this, wrap64 (by omega) (by omega)]; omega
  have s3 : shlI .i64 p 3 = 8 * p := by
    have : shlI .i64 p 3 = IntKind.i64.wrap (p * 8) := rfl
    rw [this, wrap64 (by omega) (by omega)]; omega
  have w : ∀ k : Nat, k < 3 → IntKind.i64.wrap ((k : Int) + 1) = ((k + 1 : Nat) : Int) := fun k hk => wrap_nat (n := k + 1) (by omega)
  have sh : ∀ k : Nat, k < 3 → (shlI .i64 p ((k + 1 : Nat) : Int) ≤ top ↔ (if k = 0 then 2 * p ≤ top else if k = 1 then 4 * p ≤ top else 8 * p ≤ top)) := by
    intro k hk
    match k, hk with
    | 0, _ => rw [show ((0 + 1 : Nat) : Int) = 1 from rfl, s1]; simp
    | 1, _ => rw [show ((1 + 1 : Nat) : Int) = 2 from rfl, s2]; simp
    | 2, _ => rw [show ((2 + 1 : Nat) : Int) = 3 from rfl, s3]; simp
  have hN : gN p top ≤ 3 := by unfold gN; repeat' split
                               all_goals omega
  have hpos : 0 < gN p top → 0 < p := by
    unfold gN
    repeat' split
    all_goals omega
  have main := loop1_run (f := f7_0) (fun k => [.i top, .i j, .i p, .i j, .l b, .i 0, .i 0, .i 0, .i 0, .l (Z.set j ((k : Nat) : Int))]) (gN p top) (j := 0) (r := [.i top, .i j, .l b, .i 0, .i 0, .i 0, .i 0, .l (Z.set j (gN p top))]) (fun k hk => ?_) ?_ (by omega)
  · simp only [hZ0] at main; exact main
  · have hp0 := hpos (by omega)
    have k3 : (k : Int) < 3 := by omega
    have kk : ¬ ((k + 1 : Nat) : Int) < 0 := by omega
    have c : shlI .i64 p ((k + 1 : Nat) : Int) ≤ top := by
      rw [sh k (by omega)]
      unfold gN at hk
      repeat' split
      all_goals (revert hk; repeat' split)
      all_goals omega
    simp -implicitDefEqProofs only [f7_0, f7_0_0, asI_i, asL_l, asE_nil, Bool.cond_decide, if_pos hp0, if_pos hj0, Int.toNat_natCast, hget, optK_some, if_pos k3, w k (by omega), if_neg kk, if_pos c, if_pos (hlen _), hset]
  · by_cases hp0 : 0 < p
    · by_cases k3 : ((gN p top : Nat) : Int) < 3
      · have kk : ¬ ((gN p top + 1 : Nat) : Int) < 0 := by omega
        have c : ¬ shlI .i64 p ((gN p top + 1 : Nat) : Int) ≤ top := by
          rw [sh _ (by omega)]
          unfold gN
          rw [if_pos hp0]
          by_cases c1 : 2 * p ≤ top
          · by_cases c2 : 4 * p ≤ top
            · by_cases c3 : 8 * p ≤ top
              · unfold gN at k3; rw [if_pos hp0, if_pos c1, if_pos c2, if_pos c3] at k3; omega
              · simp [c1, c2, c3]
            · simp [c1, c2]
          · simp [c1]
        simp -implicitDefEqProofs only [f7_0, f7_0_0, asI_i, asL_l, asE_nil, Bool.cond_decide, if_pos hp0, if_pos hj0, Int.toNat_natCast, hget, optK_some, if_pos k3, w _ (show gN p top < 3 by omega), if_neg kk, if_neg c]
      · simp -implicitDefEqProofs only [f7_0, f7_0_0, asI_i, asL_l, asE_nil, Bool.cond_decide, if_pos hp0, if_pos hj0, Int.toNat_natCast, hget, optK_some, if_neg k3]
    · simp -implicitDefEqProofs only [f7_0, f7_0_0, asI_i, asL_l, asE_nil, Bool.cond_decide, if_neg hp0]
def gainsL (b : List Int) : List Int := (List.range 4).map fun j => ((gN (pk b (4 * j) 4) (pk b 0 16) : Nat) : Int)
theorem gainsL_len (b : List Int) : (gainsL b).length = 4 := by simp [gainsL]
theorem gof_ok (b : List Int) (hb : b.length = 16) (hn : nearB b = true) : g7 (0, [.l b]) = some (0, [.l (gainsL b)]) := by
  have ht := pk_range b hn 0 16 (by omega)
  have hv : (gainsL b).length = ([0, 0, 0, 0] : List Int).length := gainsL_len b
  have hl : L7_1 (0, [.i (pk b 0 16), .i 0, .l b, .i 0, .i 0, .i 0, .i 0, .l [0, 0, 0, 0]]) = some (0, [.l b, .i 0, .i 0, .i 0, .i 0, .l (gainsL b)]) := by
    have := loop1_run (f := f7_1) (fun k => [.i (pk b 0 16), .i k, .l b, .i 0, .i 0, .i 0, .i 0, .l (mix (gainsL b) [0, 0, 0, 0] k)]) 4 (j := 0) (r := [.l b, .i 0, .i 0, .i 0, .i 0, .l (gainsL b)]) (fun k hk => ?_) ?_ (by omega)
    · rw [mix_zero] at this; exact this
    · have h1 : (k : Int) < 4 := by omega
      have w2 : IntKind.i64.wrap ((k : Int) + 1) = ((k + 1 : Nat) : Int) := wrap_nat (n := k + 1) (by omega)
      have w3 : IntKind.i64.wrap (((k + 1 : Nat) : Int) * 4) = ((4 * k + 4 : Nat) : Int) := by rw [wrap64 (by omega) (by omega)]; omega
      have w4 : IntKind.i64.wrap ((k : Int) * 4) = ((4 * k : Nat) : Int) := by rw [wrap64 (by omega) (by omega)]; omega
      have c1 : (0 : Int) ≤ ((4 * k + 4 : Nat) : Int) ∧ ((4 * k + 4 : Nat) : Int) ≤ 16 := by omega
      have c2 : (0 : Int) ≤ ((4 * k : Nat) : Int) ∧ ((4 * k : Nat) : Int) ≤ ((4 * k + 4 : Nat) : Int) := by omega
      have e4 : 4 * k + 4 - 4 * k = 4 := by omega
      have hp := peak14 b hb hn (4 * k) 4 (by omega)
      have pr := pk_range b hn (4 * k) 4 (by omega)
      have hmz : (mix (gainsL b) [0, 0, 0, 0] k)[k]? = some 0 := by
        rw [mix_get hv (by show k < 4; exact hk)]
        match k, hk with
        | 0, _ => rfl
        | 1, _ => rfl
        | 2, _ => rfl
        | 3, _ => rfl
      have hg := gain_loop b (mix (gainsL b) [0, 0, 0, 0] k) k hk (mix_len hv k) hmz (pk b (4 * k) 4) (pk b 0 16) pr ht
      have hset := mix_set hv (k := k) (by show k < 4; exact hk) (x := ((gN (pk b (4 * k) 4) (pk b 0 16) : Nat) : Int)) (by simp [gainsL, hk])
      rw [hset] at hg
      simp -implicitDefEqProofs only [f7_1, f7_1_0, asI_i, asL_l, asE_nil, Bool.cond_decide, if_pos h1, w2, w3, w4, if_pos c1, Int.toNat_natCast, if_pos c2, if_pos (show 16 ≤ b.length by omega), e4, hp, altK_0, hg]
    · have : mix (gainsL b) ([0, 0, 0, 0] : List Int) 4 = gainsL b := mix_all hv
      simp -implicitDefEqProofs only [f7_1, f7_1_0, asI_i, asL_l, asE_nil, Bool.cond_decide, this]
      rfl
  have t4 : List.take 4 (gainsL b) = gainsL b := List.take_of_length_le (by rw [gainsL_len]; omega)
  have z4 : ([0, 0, 0, 0] : List Int).length = 4 := rfl
  have d4 : List.drop 4 ([0, 0, 0, 0] : List Int) = [] := rfl
  have hp := peak14 b hb hn 0 16 (by omega)
  simp -implicitDefEqProofs only [g7, g7_0, asL_l, asI_i, asE_nil, if_pos (show 16 ≤ b.length by omega), hp, altK_0, hl, gainsL_len, t4, z4, d4, Nat.zero_add, List.append_nil, Nat.le_refl, if_true]
theorem power_ok (n : Nat) (h : n ≤ 3) : g9 (0, [.i n]) = some (0, [.i (2 ^ n : Nat)]) := by
  have hl : L9_0 (0, [.i n, .i 1, .i 0]) = some (0, [.i (2 ^ n : Nat)]) := by
    refine loop1_run (fun k => [.i n, .i (2 ^ k : Nat), .i k]) n (fun k hk => ?_) ?_ (by omega)
    · have h1 : (k : Int) < n := by omega
      have hp : 2 ^ (k + 1) ≤ 2 ^ 62 := Nat.pow_le_pow_right (by omega) (by omega)
      have hp2 : 2 ^ (k + 1) = 2 * 2 ^ k := by rw [Nat.pow_succ, Nat.mul_comm]
      have w1 : IntKind.i64.wrap (2 * ((2 ^ k : Nat) : Int)) = ((2 ^ (k + 1) : Nat) : Int) := by rw [wrap64 (by omega) (by omega)]; omega
      have w2 : IntKind.i64.wrap ((k : Int) + 1) = ((k + 1 : Nat) : Int) := wrap_nat (n := k + 1) (by omega)
      simp only [f9_0, f9_0_0, asI_i, asE_nil, Bool.cond_decide, if_pos h1, w1, w2]
    · simp [f9_0, f9_0_0]
  simp only [g9, g9_0, asI_i, asE_nil, hl, altK_0]
/-- What the law's loop wants. -/
def want (p top : Int) : Nat → Int
  | 0 => 0
  | k + 1 => if 0 < p ∧ p * ((2 ^ (k + 1) : Nat) : Int) ≤ top then ((k + 1 : Nat) : Int) else want p top k
theorem want3 (p top : Int) : want p top 3 = ((gN p top : Nat) : Int) := by
  simp only [want, gN, Nat.zero_add, show (2 : Nat) ^ 1 = 2 by rfl, show (2 : Nat) ^ (1 + 1) = 4 by rfl, show (2 : Nat) ^ (2 + 1) = 8 by rfl]
  by_cases hp : 0 < p
  · simp only [hp, true_and, if_true]
    repeat' split
    all_goals omega
  · simp only [hp, false_and, if_false]
    rfl
theorem want_loop (b G : List Int) (j p top : Int) (hp : 0 ≤ p ∧ p ≤ 1099511627776) : L3_0 (0, [.i top, .i j, .i p, .i 0, .i 1, .l b, .l G]) = some (0, [.i top, .i j, .i p, .i (gN p top : Nat), .l b, .l G]) := by
  have main := loop1_run (f := f3_0) (fun k => [.i top, .i j, .i p, .i (want p top k), .i (k + 1 : Nat), .l b, .l G]) 3 (j := 0) (r := [.i top, .i j, .i p, .i (gN p top : Nat), .l b, .l G]) (fun k hk => ?_) ?_ (by omega)
  · exact main
  · have h1 : ((k + 1 : Nat) : Int) < 4 := by omega
    have w2 : IntKind.i64.wrap (((k + 1 : Nat) : Int) + 1) = ((k + 1 + 1 : Nat) : Int) := wrap_nat (n := k + 1 + 1) (by omega)
    have hq := power_ok (k + 1) (by omega)
    have e : want p top (k + 1) = if 0 < p ∧ p * ((2 ^ (k + 1) : Nat) : Int) ≤ top then ((k + 1 : Nat) : Int) else want p top k := rfl
    rw [e]
    have hP : 2 ^ (k + 1) ≤ 2 ^ 3 := Nat.pow_le_pow_right (by omega) (by omega)
    have hP1 : 0 < 2 ^ (k + 1) := Nat.pow_pos (by omega)
    generalize 2 ^ (k + 1) = P at *
    have m1 : p * (P : Int) ≤ p * 8 := Int.mul_le_mul_of_nonneg_left (by omega) hp.1
    have m0 : 0 ≤ p * (P : Int) := Int.mul_nonneg hp.1 (by omega)
    have w3 : IntKind.i64.wrap (p * (P : Int)) = p * (P : Int) := wrap64 (by omega) (by omega)
    by_cases c1 : 0 < p
    · by_cases c2 : p * (P : Int) ≤ top
      · simp -implicitDefEqProofs only [f3_0, f3_0_0, asI_i, asL_l, asE_nil, Bool.cond_decide, if_pos h1, w2, hq, altK_0, w3, if_pos c1, if_pos c2, if_pos (And.intro c1 c2)]
      · simp -implicitDefEqProofs only [f3_0, f3_0_0, asI_i, asL_l, asE_nil, Bool.cond_decide, if_pos h1, w2, hq, altK_0, w3, if_pos c1, if_neg c2, if_neg (fun h : _ ∧ _ => c2 h.2)]
    · simp -implicitDefEqProofs only [f3_0, f3_0_0, asI_i, asL_l, asE_nil, Bool.cond_decide, if_pos h1, w2, if_neg c1, if_neg (fun h : _ ∧ _ => c1 h.1)]
  · simp -implicitDefEqProofs only [f3_0, f3_0_0, asI_i, asL_l, asE_nil, Bool.cond_decide, want3]
    rfl
theorem gN_top {p top : Int} (hp : 0 ≤ p) (h : p ≤ top) : p * ((2 ^ gN p top : Nat) : Int) ≤ top := by
  unfold gN
  repeat' split
  all_goals
    simp only [show (2 : Nat) ^ 0 = 1 by rfl, show (2 : Nat) ^ 1 = 2 by rfl, show (2 : Nat) ^ 2 = 4 by rfl, show (2 : Nat) ^ 3 = 8 by rfl]
    omega
theorem gN_le (p top : Int) : gN p top ≤ 3 := by
  unfold gN
  repeat' split
  all_goals omega
theorem check_loop (b : List Int) (hb : b.length = 16) (hn : nearB b = true) : L3_1 (0, [.i (pk b 0 16), .i 0, .l b, .l (gainsL b)]) = some (0, [.l b, .l (gainsL b)]) := by
  refine loop1_run (f := f3_1) (fun k => [.i (pk b 0 16), .i k, .l b, .l (gainsL b)]) 4 (fun k hk => ?_) ?_ (by omega)
  · have h1 : (k : Int) < 4 := by omega
    have w2 : IntKind.i64.wrap ((k : Int) + 1) = ((k + 1 : Nat) : Int) := wrap_nat (n := k + 1) (by omega)
    have w4 : IntKind.i64.wrap (4 * (k : Int)) = ((4 * k : Nat) : Int) := by rw [wrap64 (by omega) (by omega)]; omega
    have w3 : IntKind.i64.wrap (((4 * k : Nat) : Int) + 4) = ((4 * k + 4 : Nat) : Int) := wrap_nat (n := 4 * k + 4) (by omega)
    have t16 : List.take 16 b = b := List.take_of_length_le (by omega)
    have hp := peak8 b hb hn (4 * k) 4 (by omega)
    have pr := pk_range b hn (4 * k) 4 (by omega)
    have ht := pk_range b hn 0 16 (by omega)
    have htop := pk_top b hn (4 * k) (by omega)
    have hg : (gainsL b)[k]? = some ((gN (pk b (4 * k) 4) (pk b 0 16) : Nat) : Int) := by simp [gainsL, hk]
    generalize pk b (4 * k) 4 = p at *
    generalize pk b 0 16 = top at *
    have hw := want_loop b (gainsL b) k p top pr
    have hq := power_ok (gN p top) (gN_le p top)
    have hfin := gN_top pr.1 htop
    have hP : 2 ^ gN p top ≤ 2 ^ 3 := Nat.pow_le_pow_right (by omega) (gN_le p top)
    have c0 : (0 : Int) ≤ k ∧ (k : Int) < 4 := by omega
    have m0 : 0 ≤ p * ((2 ^ gN p top : Nat) : Int) := Int.mul_nonneg pr.1 (Int.natCast_nonneg _)
    have w5 : IntKind.i64.wrap (p * ((2 ^ gN p top : Nat) : Int)) = p * ((2 ^ gN p top : Nat) : Int) := wrap64 (by omega) (by omega)
    have hne : ∀ x : Int, (x ≠ x) = False := fun x => by simp
    have c9 : ¬ top < p * ((2 ^ gN p top : Nat) : Int) := by omega
    simp -implicitDefEqProofs only [f3_1, f3_1_0, asI_i, asL_l, asE_nil, Bool.cond_decide, if_pos h1, w2, w4, w3, if_pos (show 16 ≤ b.length by omega), t16, hp, altK_0, hw, if_pos c0, Int.toNat_natCast, hg, optK_some, hne, if_false, hq, w5, if_neg c9]
  · simp -implicitDefEqProofs only [f3_1, f3_1_0, asI_i, asL_l, asE_nil, Bool.cond_decide]
    rfl
theorem gains_right (b : List Int) : rightG (gainsL b) = true := by
  refine List.all_eq_true.2 fun k hk => ?_
  have hk := List.mem_range.1 hk
  have hg : (gainsL b)[k]? = some ((gN (pk b (4 * k) 4) (pk b 0 16) : Nat) : Int) := by simp [gainsL, hk]
  have h2 : (gainsL b).getD k 0 = ((gN (pk b (4 * k) 4) (pk b 0 16) : Nat) : Int) := by rw [List.getD_eq_getElem?_getD, hg]; rfl
  have := gN_le (pk b (4 * k) 4) (pk b 0 16)
  unfold okG
  rw [h2, decide_eq_true_eq]
  omega
theorem gainof (b : List Int) (hb : b.length = 16) : g3 (0, [.l b]) = some (0, [.b true]) := by
  have t16 : List.take 16 b = b := List.take_of_length_le (by omega)
  have l16 : 16 ≤ b.length := by omega
  simp -implicitDefEqProofs only [g3, g3_0, asL_l, asB_b, asE_nil, if_pos l16, t16, near5 b hb, altK_0]
  cases hn : nearB b
  · simp -implicitDefEqProofs only [Bool.not_false, cond_true, awakeL_ok, altK_0, asB_b, asE_nil]
  · have hp := peak8 b hb hn 0 16 (by omega)
    rw [show ((0 : Nat) : Int) = 0 from rfl, show ((0 + 16 : Nat) : Int) = 16 from rfl] at hp
    have d4 : List.drop 4 ([0, 0, 0, 0] : List Int) = [] := rfl
    have t4 : List.take 4 (gainsL b) = gainsL b := List.take_of_length_le (by rw [gainsL_len]; omega)
    simp -implicitDefEqProofs only [Bool.not_true, cond_false, gof_ok b hb hn, altK_0, asL_l, asI_i, asE_nil, asB_b, gainsL_len, Nat.zero_add, d4, List.append_nil, if_true, Nat.le_refl, hp, check_loop b hb hn, t4, gright_ok (gainsL b) (gainsL_len b), gains_right b, cond_true, awakeL_ok]
theorem gainof_ev (b : List Int) (hb : b.length = 16) : ∃ d, evF tab d 3 [.ints .i64 b] [] = some (.bool true, [], []) :=
  ⟨_, (ok3 0).ret (i := 0) (ls := [.l b]) (j := 0) (r := [.b true]) (gainof b hb) rfl rfl rfl rfl⟩
end Go.Proofs.Ythkefaobciihdaa
