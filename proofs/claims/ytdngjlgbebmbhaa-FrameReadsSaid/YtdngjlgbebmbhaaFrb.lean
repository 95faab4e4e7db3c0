/-
  The document's test of a frame, a frame of few tones, how many bits it needs, and which frames are the same. Conditions: none.
-/
import Derived.Test.YtdngjlgbebmbhaaFra
namespace Go.Proofs.Ytdngjlgbebmbhaa
open Go Go.Sx G
set_option maxRecDepth 100000
set_option linter.unusedVariables false
set_option linter.unusedSimpArgs false
attribute [local simp] asI_i asB_b asL_l asN_n asS_s asE_nil altK_none altK_0 altK_1 altK_2 altK_3 optK_some optK_none Bool.cond_decide Bool.cond_not Int.toNat_natCast
set_option linter.unusedSimpArgs false
def q0 (c : List NC) (k : Nat) : Bool := (ib 0 3 (Ac c k) && ib 0 23 (Ac c (5 + k))) && ib 0 24 (Ac c (9 + k))
theorem q0_iff {c : List NC} {k : Nat} : q0 c k = true ↔ ((0 ≤ Ac c k ∧ Ac c k ≤ 3) ∧ 0 ≤ Ac c (5 + k) ∧ Ac c (5 + k) ≤ 23) ∧ 0 ≤ Ac c (9 + k) ∧ Ac c (9 + k) ≤ 24 := by
  simp only [q0, Bool.and_eq_true, ib_iff]
def q1 (c : List NC) (k : Nat) : Bool := fitP (Ac c (13 + k)) (Ac c (9 + k / 4)).toNat
def lB (c : List NC) : Bool := allN 4 (q0 c) && (allN 16 (q1 c) && tB (Nc c) (Tc c))
theorem lB_eq (c : List NC) : lB c = rB c := by
  rw [Bool.eq_iff_iff]
  simp only [lB, rB, Bool.and_eq_true, allN_iff, wqB, q0_iff, q1, ib_iff]
  constructor
  · rintro ⟨h0, h1, ht⟩
    refine ⟨⟨fun k hk => (h0 k hk).1.1, ht, fun k hk => (h0 k hk).1.2⟩, fun i hi => ⟨(h0 i hi).2, fun k hk => ?_⟩⟩
    have := h1 (i * 4 + k) (by omega)
    rw [show 13 + (i * 4 + k) = i * 4 + 13 + k by omega, show (i * 4 + k) / 4 = i by omega] at this
    exact this
  · rintro ⟨⟨hg, ht, hs⟩, hw⟩
    refine ⟨fun k hk => ⟨⟨hg k hk, hs k hk⟩, (hw k hk).1⟩, fun k hk => ?_, ht⟩
    have := (hw (k / 4) (by omega)).2 (k % 4) (by omega)
    rw [show k / 4 * 4 + 13 + k % 4 = 13 + k by omega] at this
    exact this
theorem lr0 (c : List NC) (hc : c.length = 29) : ∀ k : Nat, k < 4 → f11_0 (0, [.i (k : Int), .x c]) = if q0 c k = true then some (0, [.i ((k + 1 : Nat) : Int), .x c]) else some (1 + 1, [.x c]) := fun k hk => by
  have h1 := getc hc (j := k) (by omega)
  have h2 := getc hc (j := 5 + k) (by omega)
  have h3 := getc hc (j := 9 + k) (by omega)
  have e5 : k + 5 = 5 + k := Nat.add_comm _ _
  have e9 : k + 9 = 9 + k := Nat.add_comm _ _
  have c1 : (k : Int) < 4 := by omega
  have c2 : (0 : Int) ≤ k := by omega
  have m1 : k % 29 < 4 := by omega
  have m2 : ((5 + k) % 29 < 4) = False := eq_false (by omega)
  have m3 : ((5 + k) % 29 < 5) = False := eq_false (by omega)
  have m4 : ((9 + k) % 29 < 4) = False := eq_false (by omega)
  have m5 : ((9 + k) % 29 < 5) = False := eq_false (by omega)
  have w2 : IntKind.i64.wrap ((k : Int) + 1) = ((k + 1 : Nat) : Int) := wrap_nat (n := k + 1) (by omega)
  have hq := q0_iff (c := c) (k := k)
  unfold Ac at hq
  generalize c.getD k ⟨0, []⟩ = x at *
  generalize c.getD (5 + k) ⟨0, []⟩ = y at *
  generalize c.getD (9 + k) ⟨0, []⟩ = z at *
  by_cases d0 : x.i < 0
  · rw [if_neg (fun e => by have := hq.1 e; omega)]
    simp -implicitDefEqProofs only [f11_0, f11_0_0, asI_i, asN_n, asL_l, asB_b, asX_x, asE_nil, ↓y1, y2, y3, y4, y5, y6, ↓reduceIte, y7, y8, y9, ya, yb, yc, yd, ye, yf, yg, yh, yi, yj, yk, optK_some, altK_0, altK_1, c1, c2, m1, m2, m3, m4, m5, e5, e9, h1, h2, h3, w2, d0]
  by_cases d1 : 3 < x.i
  · rw [if_neg (fun e => by have := hq.1 e; omega)]
    simp -implicitDefEqProofs only [f11_0, f11_0_0, asI_i, asN_n, asL_l, asB_b, asX_x, asE_nil, ↓y1, y2, y3, y4, y5, y6, ↓reduceIte, y7, y8, y9, ya, yb, yc, yd, ye, yf, yg, yh, yi, yj, yk, optK_some, altK_0, altK_1, c1, c2, m1, m2, m3, m4, m5, e5, e9, h1, h2, h3, w2, d0, d1]
  by_cases d2 : y.i < 0
  · rw [if_neg (fun e => by have := hq.1 e; omega)]
    simp -implicitDefEqProofs only [f11_0, f11_0_0, asI_i, asN_n, asL_l, asB_b, asX_x, asE_nil, ↓y1, y2, y3, y4, y5, y6, ↓reduceIte, y7, y8, y9, ya, yb, yc, yd, ye, yf, yg, yh, yi, yj, yk, optK_some, altK_0, altK_1, c1, c2, m1, m2, m3, m4, m5, e5, e9, h1, h2, h3, w2, d0, d1, d2]
  by_cases d3 : 23 < y.i
  · rw [if_neg (fun e => by have := hq.1 e; omega)]
    simp -implicitDefEqProofs only [f11_0, f11_0_0, asI_i, asN_n, asL_l, asB_b, asX_x, asE_nil, ↓y1, y2, y3, y4, y5, y6, ↓reduceIte, y7, y8, y9, ya, yb, yc, yd, ye, yf, yg, yh, yi, yj, yk, optK_some, altK_0, altK_1, c1, c2, m1, m2, m3, m4, m5, e5, e9, h1, h2, h3, w2, d0, d1, d2, d3]
  by_cases d4 : z.i < 0
  · rw [if_neg (fun e => by have := hq.1 e; omega)]
    simp -implicitDefEqProofs only [f11_0, f11_0_0, asI_i, asN_n, asL_l, asB_b, asX_x, asE_nil, ↓y1, y2, y3, y4, y5, y6, ↓reduceIte, y7, y8, y9, ya, yb, yc, yd, ye, yf, yg, yh, yi, yj, yk, optK_some, altK_0, altK_1, c1, c2, m1, m2, m3, m4, m5, e5, e9, h1, h2, h3, w2, d0, d1, d2, d3, d4]
  by_cases d5 : 24 < z.i
  · rw [if_neg (fun e => by have := hq.1 e; omega)]
    simp -implicitDefEqProofs only [f11_0, f11_0_0, asI_i, asN_n, asL_l, asB_b, asX_x, asE_nil, ↓y1, y2, y3, y4, y5, y6, ↓reduceIte, y7, y8, y9, ya, yb, yc, yd, ye, yf, yg, yh, yi, yj, yk, optK_some, altK_0, altK_1, c1, c2, m1, m2, m3, m4, m5, e5, e9, h1, h2, h3, w2, d0, d1, d2, d3, d4, d5]
  rw [if_pos (hq.2 (by omega))]
  simp -implicitDefEqProofs only [f11_0, f11_0_0, asI_i, asN_n, asL_l, asB_b, asX_x, asE_nil, ↓y1, y2, y3, y4, y5, y6, ↓reduceIte, y7, y8, y9, ya, yb, yc, yd, ye, yf, yg, yh, yi, yj, yk, optK_some, altK_0, altK_1, c1, c2, m1, m2, m3, m4, m5, e5, e9, h1, h2, h3, w2, d0, d1, d2, d3, d4, d5]
theorem lr1 (c : List NC) (hc : c.length = 29) (hw : ∀ i, i < 4 → 0 ≤ Ac c (9 + i) ∧ Ac c (9 + i) ≤ 24) : ∀ k : Nat, k < 16 → f11_1 (0, [.i (k : Int), .x c]) = if q1 c k = true then some (0, [.i ((k + 1 : Nat) : Int), .x c]) else some (1 + 1, [.x c]) := fun k hk => by
  have h1 := getc hc (j := 13 + k) (by omega)
  have h2 := getc hc (j := 9 + k / 4) (by omega)
  have hw := hw (k / 4) (by omega)
  have e5 : k + 13 = 13 + k := Nat.add_comm _ _
  have e9 : k / 4 + 9 = 9 + k / 4 := Nat.add_comm _ _
  have c1 : (k : Int) < 16 := by omega
  have c2 : (0 : Int) ≤ k := by omega
  have w3 : IntKind.i64.wrap (Int.tdiv (k : Int) 4) = ((k / 4 : Nat) : Int) := by rw [Int.tdiv_eq_ediv_of_nonneg (by omega), wrap64 (by omega) (by omega)]; omega
  have c3 : ((k / 4 : Nat) : Int) < 4 := by omega
  have c4 : (0 : Int) ≤ ((k / 4 : Nat) : Int) := by omega
  have hm := Nat.mod_eq_of_lt (show 13 + k < 29 by omega)
  have hm2 := Nat.mod_eq_of_lt (show 9 + k / 4 < 29 by omega)
  have m2 : ((13 + k) % 29 < 4) = False := eq_false (by rw [hm]; omega)
  have m3 : ((13 + k) % 29 < 5) = False := eq_false (by rw [hm]; omega)
  have m4 : ((9 + k / 4) % 29 < 4) = False := eq_false (by rw [hm2]; omega)
  have m5 : ((9 + k / 4) % 29 < 5) = False := eq_false (by rw [hm2]; omega)
  have w2 : IntKind.i64.wrap ((k : Int) + 1) = ((k + 1 : Nat) : Int) := wrap_nat (n := k + 1) (by omega)
  have hf := Fits_ok (Ac c (13 + k)) (Ac c (9 + k / 4)).toNat (by omega)
  rw [show (((Ac c (9 + k / 4)).toNat : Nat) : Int) = Ac c (9 + k / 4) by omega] at hf
  unfold q1
  unfold Ac at *
  generalize c.getD (13 + k) ⟨0, []⟩ = x at *
  generalize c.getD (9 + k / 4) ⟨0, []⟩ = y at *
  cases hb : fitP x.i y.i.toNat <;> rw [hb] at hf <;> simp -implicitDefEqProofs only [f11_1, f11_1_0, asI_i, asN_n, asL_l, asB_b, asX_x, asE_nil, ↓y1, y2, y3, y4, y5, y6, ↓reduceIte, y7, y8, y9, ya, yb, yc, yd, ye, yf, yg, yh, yi, yj, yk, optK_some, altK_0, altK_1, c1, c2, c3, c4, m2, m3, m4, m5, e5, e9, h1, h2, w2, w3, hf, Bool.false_eq_true]
theorem lr2 (c : List NC) (n : Nat) (T : List Int) (hx4 : c[4]? = some (c.getD 4 ⟨0, []⟩)) (t4 : (c.getD 4 ⟨0, []⟩).l = T) (t5 : T.length / 2 = n) (hl : n * 2 ≤ T.length) (hn : n ≤ 5) : ∀ k : Nat, k < n →
    (tp T k = true → f11_2 (0, [.i (k : Int), .x c]) = some (0, [.i ((k + 1 : Nat) : Int), .x c])) ∧ (tp T k = false → ∃ r, f11_2 (0, [.i (k : Int), .x c]) = some (1 + 1, r) ∧ ∃ q : List Int, r = [.x c, .l q]) := fun k hk => by
  have c1 : (k : Int) < (n : Int) := by omega
  have c2 : (0 : Int) ≤ k := by omega
  have c3 : k * 2 + 2 ≤ T.length := by omega
  have cl := cT_len (h := T) (k := k) (by omega)
  have t0 := cT_0 (h := T) (k := k) (by omega)
  have t1 := cT_1 (h := T) (k := k) (by omega)
  have hf := Fits24 (T.getD (k * 2 + 1) 0)
  have w2 : IntKind.i64.wrap ((k : Int) + 1) = ((k + 1 : Nat) : Int) := wrap_nat (n := k + 1) (by omega)
  have hx : 0 < k → T[(k - 1) * 2]? = some (T.getD ((k - 1) * 2) 0) := fun _ => get_some (by omega)
  have w1 : 0 < k → IntKind.i64.wrap ((k : Int) - 1) = ((k - 1 : Nat) : Int) := fun hk => by rw [wrap64 (by omega) (by omega)]; omega
  have c5 : 0 < k → (((k - 1 : Nat) : Int) < (n : Int)) := fun _ => by omega
  have c6 : (0 : Int) ≤ ((k - 1 : Nat) : Int) := by omega
  generalize c.getD 4 ⟨0, []⟩ = v4 at *
  refine ⟨fun hp => ?_, fun hp => ?_⟩
  · have hq := tp_iff.1 hp
    clear hp
    generalize T.getD (k * 2) 0 = v at *
    generalize T.getD (k * 2 + 1) 0 = u at *
    obtain ⟨⟨q1, q2⟩, q3, q4⟩ := hq
    rw [q3] at hf
    have c7 : ¬ v < 0 := by omega
    have c8 : ¬ 15 < v := by omega
    by_cases z : 0 < k
    · have hx := hx z
      have w1 := w1 z
      have c5 := c5 z
      have z' : (0 : Int) < (k : Int) := by omega
      have c9 : ¬ v ≤ T.getD ((k - 1) * 2) 0 := by omega
      generalize T.getD ((k - 1) * 2) 0 = u' at *
      simp -implicitDefEqProofs only [f11_2, f11_2_0, asI_i, asN_n, asL_l, asB_b, asX_x, asE_nil, ↓y1, y2, y3, y4, y5, y6, ↓reduceIte, y7, y8, y9, ya, yb, yc, yd, ye, yf, yg, yh, yi, yj, yk, optK_some, altK_0, altK_1, hx4, t4, t5, c1, c2, c3, cl, t0, t1, d2, c7, c8, z', w1, c5, c6, hx, c9, hf, w2]
    · have z' : ¬ (0 : Int) < (k : Int) := by omega
      simp -implicitDefEqProofs only [f11_2, f11_2_0, asI_i, asN_n, asL_l, asB_b, asX_x, asE_nil, ↓y1, y2, y3, y4, y5, y6, ↓reduceIte, y7, y8, y9, ya, yb, yc, yd, ye, yf, yg, yh, yi, yj, yk, optK_some, altK_0, altK_1, hx4, t4, t5, c1, c2, c3, cl, t0, t1, d2, c7, c8, z', hf, w2]
  · have hq : ¬ _ := fun e => by rw [tp_iff.2 e] at hp; cases hp
    clear hp
    refine ⟨[.x c, .l (List.take 2 (List.drop (k * 2) T))], ?_, _, rfl⟩
    generalize T.getD (k * 2) 0 = v at *
    generalize T.getD (k * 2 + 1) 0 = u at *
    by_cases c7 : v < 0
    · simp -implicitDefEqProofs only [f11_2, f11_2_0, asI_i, asN_n, asL_l, asB_b, asX_x, asE_nil, ↓y1, y2, y3, y4, y5, y6, ↓reduceIte, y7, y8, y9, ya, yb, yc, yd, ye, yf, yg, yh, yi, yj, yk, optK_some, altK_0, altK_1, hx4, t4, t5, c1, c2, c3, cl, t0, t1, d2, c7]
    by_cases c8 : 15 < v
    · simp -implicitDefEqProofs only [f11_2, f11_2_0, asI_i, asN_n, asL_l, asB_b, asX_x, asE_nil, ↓y1, y2, y3, y4, y5, y6, ↓reduceIte, y7, y8, y9, ya, yb, yc, yd, ye, yf, yg, yh, yi, yj, yk, optK_some, altK_0, altK_1, hx4, t4, t5, c1, c2, c3, cl, t0, t1, d2, c7, c8]
    cases e : fitP u 24 with
    | false =>
      rw [e] at hf
      simp -implicitDefEqProofs only [f11_2, f11_2_0, asI_i, asN_n, asL_l, asB_b, asX_x, asE_nil, ↓y1, y2, y3, y4, y5, y6, ↓reduceIte, y7, y8, y9, ya, yb, yc, yd, ye, yf, yg, yh, yi, yj, yk, optK_some, altK_0, altK_1, hx4, t4, t5, c1, c2, c3, cl, t0, t1, d2, c7, c8, hf]
    | true =>
      rw [e] at hf
      have z : 0 < k := by
        rcases Nat.eq_zero_or_pos k with z | z
        · exact absurd ⟨⟨by omega, by omega⟩, e, .inl z⟩ hq
        · exact z
      have hx := hx z
      have w1 := w1 z
      have c5 := c5 z
      have z' : (0 : Int) < (k : Int) := by omega
      have c9 : v ≤ T.getD ((k - 1) * 2) 0 := by
        rcases Int.lt_or_le (T.getD ((k - 1) * 2) 0) v with h | h
        · exact absurd ⟨⟨by omega, by omega⟩, e, .inr h⟩ hq
        · exact h
      generalize T.getD ((k - 1) * 2) 0 = u' at *
      simp -implicitDefEqProofs only [f11_2, f11_2_0, asI_i, asN_n, asL_l, asB_b, asX_x, asE_nil, ↓y1, y2, y3, y4, y5, y6, ↓reduceIte, y7, y8, y9, ya, yb, yc, yd, ye, yf, yg, yh, yi, yj, yk, optK_some, altK_0, altK_1, hx4, t4, t5, c1, c2, c3, cl, t0, t1, d2, c7, c8, z', w1, c5, c6, hx, c9, hf]
theorem lright_ok (c : List NC) (hc : WF c) : g11 (0, [.x c]) = some (0, [.b (rB c)]) := by
  rw [← lB_eq]
  have hx4 := getc hc.len (j := 4) (by omega)
  have m0 := loop_chk (f := f11_0) (fun k => [.i (k : Int), .x c]) 4 (q0 c) (fun r => r = [.x c]) (j1 := 0) (j2 := 1) (r1 := [.x c]) (fun k hk hp => by rw [lr0 c hc.len k hk, if_pos hp]) (fun k hk hp => ⟨_, by rw [lr0 c hc.len k hk, hp]; exact if_neg Bool.false_ne_true, rfl⟩) (by
    have c1 : ¬ ((4 : Nat) : Int) < 4 := by omega
    simp -implicitDefEqProofs only [f11_0, f11_0_0, asI_i, asN_n, asL_l, asB_b, asX_x, asE_nil, ↓y1, y2, y3, y4, y5, y6, ↓reduceIte, y7, y8, y9, ya, yb, yc, yd, ye, yf, yg, yh, yi, yj, yk, optK_some, altK_0, altK_1, c1]) (by omega)
  unfold lB
  rcases m0 with ⟨b0, h0⟩ | ⟨b0, r, h0, rfl⟩
  · have h0 : L11_0 (0, [.i 0, .x c]) = some (0, [.x c]) := h0
    have hw := fun i hi => (q0_iff.1 (allN_iff.1 b0 i hi)).2
    have m1 := loop_chk (f := f11_1) (fun k => [.i (k : Int), .x c]) 16 (q1 c) (fun r => r = [.x c]) (j1 := 0) (j2 := 1) (r1 := [.x c]) (fun k hk hp => by rw [lr1 c hc.len hw k hk, if_pos hp]) (fun k hk hp => ⟨_, by rw [lr1 c hc.len hw k hk, hp]; exact if_neg Bool.false_ne_true, rfl⟩) (by
      have c1 : ¬ ((16 : Nat) : Int) < 16 := by omega
      simp -implicitDefEqProofs only [f11_1, f11_1_0, asI_i, asN_n, asL_l, asB_b, asX_x, asE_nil, ↓y1, y2, y3, y4, y5, y6, ↓reduceIte, y7, y8, y9, ya, yb, yc, yd, ye, yf, yg, yh, yi, yj, yk, optK_some, altK_0, altK_1, c1]) (by omega)
    rcases m1 with ⟨b1, h1⟩ | ⟨b1, r, h1, rfl⟩
    · have h1 : L11_1 (0, [.i 0, .x c]) = some (0, [.x c]) := h1
      have hl : Nc c * 2 ≤ (Tc c).length := by rw [hc.ton]; exact Nat.le_refl _
      have st := lr2 c (Nc c) (Tc c) hx4 rfl rfl hl hc.few
      have m2 := loop_chk (f := f11_2) (fun k => [.i (k : Int), .x c]) (Nc c) (tp (Tc c)) (fun r => ∃ q : List Int, r = [.x c, .l q]) (j1 := 0) (j2 := 1) (r1 := [.x c]) (fun k hk hp => (st k hk).1 hp) (fun k hk hp => (st k hk).2 hp) (by
        have t4 : (c.getD 4 ⟨0, []⟩).l = Tc c := rfl
        have t5 : List.length (Tc c) / 2 = Nc c := rfl
        have c1 : ¬ (Nc c : Int) < (Nc c : Int) := Int.lt_irrefl _
        simp -implicitDefEqProofs only [f11_2, f11_2_0, asI_i, asN_n, asL_l, asB_b, asX_x, asE_nil, ↓y1, y2, y3, y4, y5, y6, ↓reduceIte, y7, y8, y9, ya, yb, yc, yd, ye, yf, yg, yh, yi, yj, yk, optK_some, altK_0, altK_1, hx4, t4, t5, c1]) (by have := hc.few; omega)
      have t4 : (c.getD 4 ⟨0, []⟩).l = Tc c := rfl
      have t5 : List.length (Tc c) / 2 = Nc c := rfl
      have e : decide ((Nc c : Int) ≤ 2) = decide (Nc c ≤ 2) := by rw [decide_eq_decide]; omega
      unfold tB
      rcases m2 with ⟨b2, h2⟩ | ⟨b2, r, h2, q, rfl⟩
      · have h2 : L11_2 (0, [.i 0, .x c]) = some (0, [.x c]) := h2
        rw [b0, b1, b2]
        simp -implicitDefEqProofs only [g11, g11_0, asI_i, asN_n, asL_l, asB_b, asX_x, asE_nil, optK_some, altK_0, altK_1, h0, h1, h2, hx4, t4, t5, e, Bool.true_and]
      · have h2 : L11_2 (0, [.i 0, .x c]) = some (1, [.x c, .l q]) := h2
        rw [b0, b1, b2]
        simp -implicitDefEqProofs only [g11, g11_0, asI_i, asN_n, asL_l, asB_b, asX_x, asE_nil, optK_some, altK_0, altK_1, h0, h1, h2, hx4, t4, t5, e, Bool.true_and, Bool.false_and, Bool.and_false]
    · have h1 : L11_1 (0, [.i 0, .x c]) = some (1, [.x c]) := h1
      rw [b0, b1]
      simp -implicitDefEqProofs only [g11, g11_0, asI_i, asN_n, asL_l, asB_b, asX_x, asE_nil, optK_some, altK_0, altK_1, h0, h1, Bool.true_and, Bool.false_and, Bool.and_false]
  · have h0 : L11_0 (0, [.i 0, .x c]) = some (1, [.x c]) := h0
    rw [b0]
    simp -implicitDefEqProofs only [g11, g11_0, asI_i, asN_n, asL_l, asB_b, asX_x, asE_nil, optK_some, altK_0, altK_1, h0, Bool.true_and, Bool.false_and, Bool.and_false]
/-! ### Few tones -/
theorem tn5 : Int.toNat (5 : Int) * nat_lit 2 = 10 := rfl
def fewC (c : List NC) : List NC := if 5 < Nc c then c.set 4 ⟨0, (Tc c).take 10⟩ else c
theorem few_wf {c : List NC} (hc : c.length = 29) (ht : (Tc c).length = Nc c * 2) : WF (fewC c) := by
  unfold fewC
  split
  · rename_i h
    have e : Tc (c.set 4 ⟨0, (Tc c).take 10⟩) = (Tc c).take 10 := by
      show ((c.set 4 ⟨0, (Tc c).take 10⟩).getD 4 ⟨0, []⟩).l = _
      rw [List.getD_eq_getElem?_getD, List.getElem?_set_self (by omega)]; rfl
    have l10 : ((Tc c).take 10).length = 10 := by rw [List.length_take]; omega
    have eN : Nc (c.set 4 ⟨0, (Tc c).take 10⟩) = 5 := by unfold Nc; rw [e, l10]
    exact ⟨by rw [List.length_set]; exact hc, by rw [eN, e, l10], by rw [eN]; exact Nat.le_refl _⟩
  · exact ⟨hc, ht, by omega⟩
theorem few_ok (c : List NC) (hc : c.length = 29) (ht : (Tc c).length = Nc c * 2) : g7 (0, [.x c]) = some (0, [.x (fewC c)]) := by
  have hx4 := getc hc (j := 4) (by omega)
  have t4 : (c.getD 4 ⟨0, []⟩).l = Tc c := rfl
  have t5 : List.length (Tc c) / 2 = Nc c := rfl
  unfold fewC
  by_cases h : 5 < Nc c
  · have c1 : (5 : Int) < (Nc c : Int) := by omega
    have c2 : (5 : Int) ≤ (Nc c : Int) := by omega
    have c3 : (0 : Int) ≤ 5 := by omega
    have c4 : (4 : Nat) < c.length := by omega
    have l10 : ((Tc c).take 10).length = 10 := by rw [List.length_take]; omega
    have p2 : (0 : Nat) < 2 := by omega
    have l29 : (c.set 4 ⟨0, (Tc c).take 10⟩).length = 29 := by rw [List.length_set]; exact hc
    have tk : List.take 29 (c.set 4 ⟨0, (Tc c).take 10⟩) = c.set 4 ⟨0, (Tc c).take 10⟩ := List.take_of_length_le (by omega)
    rw [if_pos h]
    simp -implicitDefEqProofs only [g7, g7_0, asI_i, asN_n, asL_l, asB_b, asX_x, asE_nil, ↓y1, y2, y3, y4, y5, y6, ↓reduceIte, y7, y8, y9, ya, yb, yc, yd, ye, yf, yg, yh, yi, yj, yk, optK_some, altK_0, altK_1, hx4, t4, t5, c1, c2, c3, c4, l10, p2, tn5, l29, tk, List.length_cons, List.length_nil, Nat.reduceAdd]
  · have c1 : ¬ (5 : Int) < (Nc c : Int) := by omega
    have tk : List.take 29 c = c := List.take_of_length_le (by omega)
    rw [if_neg h]
    simp -implicitDefEqProofs only [g7, g7_0, asI_i, asN_n, asL_l, asB_b, asX_x, asE_nil, ↓y1, y2, y3, y4, y5, y6, ↓reduceIte, y7, y8, y9, ya, yb, yc, yd, ye, yf, yg, yh, yi, yj, yk, optK_some, altK_0, altK_1, hx4, t4, t5, c1, hc, tk, List.length_cons, List.length_nil, Nat.reduceAdd]
/-! ### How many bits -/
def wc (c : List NC) (i : Nat) : Nat := (Ac c (9 + i)).toNat
def mC (c : List NC) : Nat := 52 + 28 * Nc c + 4 * (wc c 0 + wc c 1 + wc c 2 + wc c 3)
structure RP (c : List NC) : Prop where
  g : ∀ k, k < 4 → 0 ≤ Ac c k ∧ Ac c k ≤ 3
  t : ∀ k, k < Nc c → (0 ≤ (Tc c).getD (k * 2) 0 ∧ (Tc c).getD (k * 2) 0 ≤ 15) ∧ fitP ((Tc c).getD (k * 2 + 1) 0) 24 = true ∧ (k = 0 ∨ (Tc c).getD ((k - 1) * 2) 0 < (Tc c).getD (k * 2) 0)
  n : Nc c ≤ 2
  s : ∀ k, k < 4 → 0 ≤ Ac c (5 + k) ∧ Ac c (5 + k) ≤ 23
  w : ∀ k, k < 4 → 0 ≤ Ac c (9 + k) ∧ Ac c (9 + k) ≤ 24
  q : ∀ k, k < 16 → fitP (Ac c (13 + k)) (Ac c (9 + k / 4)).toNat = true
theorem rB_iff {c : List NC} : rB c = true ↔ RP c := by
  rw [← lB_eq]
  simp only [lB, tB, Bool.and_eq_true, allN_iff, q0_iff, q1, tp_iff, decide_eq_true_eq]
  exact ⟨fun ⟨h0, h1, h2, h3⟩ => ⟨fun k hk => (h0 k hk).1.1, h2, h3, fun k hk => (h0 k hk).1.2, fun k hk => (h0 k hk).2, h1⟩, fun h => ⟨fun k hk => ⟨⟨h.g k hk, h.s k hk⟩, h.w k hk⟩, h.q, h.t, h.n⟩⟩
theorem many_ok (c : List NC) (hc : WF c) (hr : RP c) : g17 (0, [.x c]) = some (0, [.i (mC c)]) := by
  have h0 := hr.w 0 (by omega)
  have h1 := hr.w 1 (by omega)
  have h2 := hr.w 2 (by omega)
  have h3 := hr.w 3 (by omega)
  have hn := hr.n
  have t4 : (c.getD 4 ⟨0, []⟩).l = Tc c := rfl
  have t5 : List.length (Tc c) / 2 = Nc c := rfl
  have x4 := getc hc.len (j := 4) (by omega)
  have x9 := getc hc.len (j := 9) (by omega)
  have x10 := getc hc.len (j := 10) (by omega)
  have x11 := getc hc.len (j := 11) (by omega)
  have x12 := getc hc.len (j := 12) (by omega)
  have h0 : 0 ≤ Ac c 9 ∧ Ac c 9 ≤ 24 := h0
  have h1 : 0 ≤ Ac c 10 ∧ Ac c 10 ≤ 24 := h1
  have h2 : 0 ≤ Ac c 11 ∧ Ac c 11 ≤ 24 := h2
  have h3 : 0 ≤ Ac c 12 ∧ Ac c 12 ≤ 24 := h3
  have e : (mC c : Int) = 52 + 28 * (Nc c : Int) + 4 * (Ac c 9 + Ac c 10 + Ac c 11 + Ac c 12) := by
    have e0 : (wc c 0 : Int) = Ac c 9 := by unfold wc; show (((Ac c 9).toNat : Nat) : Int) = _; omega
    have e1 : (wc c 1 : Int) = Ac c 10 := by unfold wc; show (((Ac c 10).toNat : Nat) : Int) = _; omega
    have e2 : (wc c 2 : Int) = Ac c 11 := by unfold wc; show (((Ac c 11).toNat : Nat) : Int) = _; omega
    have e3 : (wc c 3 : Int) = Ac c 12 := by unfold wc; show (((Ac c 12).toNat : Nat) : Int) = _; omega
    unfold mC; omega
  rw [e]
  have a9 : (c.getD 9 ⟨0, []⟩).i = Ac c 9 := rfl
  have a10 : (c.getD 10 ⟨0, []⟩).i = Ac c 10 := rfl
  have a11 : (c.getD 11 ⟨0, []⟩).i = Ac c 11 := rfl
  have a12 : (c.getD 12 ⟨0, []⟩).i = Ac c 12 := rfl
  clear e
  generalize Ac c 9 = p9 at *
  generalize Ac c 10 = p10 at *
  generalize Ac c 11 = p11 at *
  generalize Ac c 12 = p12 at *
  generalize Nc c = N at *
  have w1 : IntKind.i64.wrap (p9 + p10) = p9 + p10 := wrap64 (by omega) (by omega)
  have w2 : IntKind.i64.wrap (p9 + p10 + p11) = p9 + p10 + p11 := wrap64 (by omega) (by omega)
  have w3 : IntKind.i64.wrap (p9 + p10 + p11 + p12) = p9 + p10 + p11 + p12 := wrap64 (by omega) (by omega)
  have w4 : IntKind.i64.wrap (4 * (p9 + p10 + p11 + p12)) = 4 * (p9 + p10 + p11 + p12) := wrap64 (by omega) (by omega)
  have w5 : IntKind.i64.wrap (28 * (N : Int)) = 28 * N := wrap64 (by omega) (by omega)
  have w6 : IntKind.i64.wrap (52 + 28 * (N : Int)) = 52 + 28 * N := wrap64 (by omega) (by omega)
  have w7 : IntKind.i64.wrap (52 + 28 * (N : Int) + 4 * (p9 + p10 + p11 + p12)) = 52 + 28 * N + 4 * (p9 + p10 + p11 + p12) := wrap64 (by omega) (by omega)
  simp -implicitDefEqProofs only [g17, g17_0, asI_i, asN_n, asL_l, asB_b, asX_x, asE_nil, ↓y1, y2, y3, y4, y5, y6, ↓reduceIte, y7, y8, y9, ya, yb, yc, yd, ye, yf, yg, yh, yi, yj, yk, optK_some, altK_0, altK_1, x4, x9, x10, x11, x12, t4, t5, a9, a10, a11, a12, w1, w2, w3, w4, w5, w6, w7]
def csum (s : List Int) : Nat → Int
  | 0 => 0
  | k + 1 => csum s k + 4 * s.getD k 0
theorem cost_ok (s : List Int) (hs : s.length = 4) (hb : ∀ k, k < 4 → 0 ≤ s.getD k 0 ∧ s.getD k 0 ≤ 24) : g30 (0, [.l s]) = some (0, [.i (csum s 4)]) := by
  have hin : ∀ k, k ≤ 4 → 0 ≤ csum s k ∧ csum s k ≤ 96 * k := by
    intro k
    induction k with
    | zero => intro _; exact ⟨Int.le_refl _, Int.le_refl _⟩
    | succ k ih => intro hk; have := ih (by omega); have := hb k (by omega); unfold csum; omega
  have hl : L30_0 (0, [.i 0, .l s, .i 0, .l s]) = some (0, [.i (csum s 4), .l s]) := by
    refine loop1_run (fun k => [.i (csum s k), .l s, .i (k : Int), .l s]) 4 (fun k hk => ?_) ?_ (by omega)
    · have hx := get_some (l := s) (i := k) (by omega)
      have h1 := hin k (by omega)
      have h2 := hb k hk
      have w1 : IntKind.i64.wrap (4 * s.getD k 0) = 4 * s.getD k 0 := wrap64 (by omega) (by omega)
      have w2 : IntKind.i64.wrap (csum s k + 4 * s.getD k 0) = csum s k + 4 * s.getD k 0 := wrap64 (by omega) (by omega)
      have w3 : IntKind.i64.wrap ((k : Int) + 1) = ((k + 1 : Nat) : Int) := wrap_nat (n := k + 1) (by omega)
      have c1 : (k : Int) < 4 := by omega
      have c2 : (0 : Int) ≤ k := by omega
      have e : csum s (k + 1) = csum s k + 4 * s.getD k 0 := rfl
      rw [e]
      generalize s.getD k 0 = v at *
      generalize csum s k = u at *
      simp -implicitDefEqProofs only [f30_0, f30_0_0, asI_i, asN_n, asL_l, asB_b, asX_x, asE_nil, ↓y1, y2, y3, y4, y5, y6, ↓reduceIte, y7, y8, y9, ya, yb, yc, yd, ye, yf, yg, yh, yi, yj, yk, optK_some, altK_0, altK_1, c1, c2, hx, w1, w2, w3]
    · have c1 : ¬ ((4 : Nat) : Int) < 4 := by omega
      simp -implicitDefEqProofs only [f30_0, f30_0_0, asI_i, asN_n, asL_l, asB_b, asX_x, asE_nil, ↓y1, y2, y3, y4, y5, y6, ↓reduceIte, y7, y8, y9, ya, yb, yc, yd, ye, yf, yg, yh, yi, yj, yk, optK_some, altK_0, altK_1, c1]
  have ht := take4 hs
  have l4 : (4 : Nat) ≤ s.length := by omega
  generalize csum s 4 = u at *
  simp -implicitDefEqProofs only [g30, g30_0, asI_i, asN_n, asL_l, asB_b, asX_x, asE_nil, ↓y1, y2, y3, y4, y5, y6, ↓reduceIte, y7, y8, y9, ya, yb, yc, yd, ye, yf, yg, yh, yi, yj, yk, optK_some, altK_0, altK_1, ht, l4, hl]
theorem bits_ok' (c : List NC) (hc : WF c) (hr : RP c) : g16 (0, [.x c]) = some (0, [.i (mC c)]) := by
  have hn := hr.n
  have hg : ∀ k, k < 4 → (sub4 c 9).getD k 0 = Ac c (9 + k) := fun k hk => sub4_get hc.len (by omega) hk
  have hco := cost_ok (sub4 c 9) (sub4_len hc.len (by omega)) (fun k hk => by rw [hg k hk]; exact hr.w k hk)
  have es : csum (sub4 c 9) 4 = 4 * (Ac c 9 + Ac c 10 + Ac c 11 + Ac c 12) := by
    show (((0 + 4 * (sub4 c 9).getD 0 0) + 4 * (sub4 c 9).getD 1 0) + 4 * (sub4 c 9).getD 2 0) + 4 * (sub4 c 9).getD 3 0 = _
    rw [hg 0 (by omega), hg 1 (by omega), hg 2 (by omega), hg 3 (by omega)]
    show (((0 + 4 * Ac c 9) + 4 * Ac c 10) + 4 * Ac c 11) + 4 * Ac c 12 = _
    omega
  rw [es] at hco
  have h0 : 0 ≤ Ac c 9 ∧ Ac c 9 ≤ 24 := hr.w 0 (by omega)
  have h1 : 0 ≤ Ac c 10 ∧ Ac c 10 ≤ 24 := hr.w 1 (by omega)
  have h2 : 0 ≤ Ac c 11 ∧ Ac c 11 ≤ 24 := hr.w 2 (by omega)
  have h3 : 0 ≤ Ac c 12 ∧ Ac c 12 ≤ 24 := hr.w 3 (by omega)
  have e : (mC c : Int) = 52 + 28 * (Nc c : Int) + 4 * (Ac c 9 + Ac c 10 + Ac c 11 + Ac c 12) := by
    have e0 : (wc c 0 : Int) = Ac c 9 := by unfold wc; show (((Ac c 9).toNat : Nat) : Int) = _; omega
    have e1 : (wc c 1 : Int) = Ac c 10 := by unfold wc; show (((Ac c 10).toNat : Nat) : Int) = _; omega
    have e2 : (wc c 2 : Int) = Ac c 11 := by unfold wc; show (((Ac c 11).toNat : Nat) : Int) = _; omega
    have e3 : (wc c 3 : Int) = Ac c 12 := by unfold wc; show (((Ac c 12).toNat : Nat) : Int) = _; omega
    unfold mC; omega
  rw [e]
  have t4 : (c.getD 4 ⟨0, []⟩).l = Tc c := rfl
  have t5 : List.length (Tc c) / 2 = Nc c := rfl
  have t8 : List.map NC.i (List.take 4 (List.drop 9 c)) = sub4 c 9 := rfl
  have x4 := getc hc.len (j := 4) (by omega)
  have l13 : (13 : Nat) ≤ c.length := by rw [hc.len]; omega
  have hp : 0 ≤ Ac c 9 + Ac c 10 + Ac c 11 + Ac c 12 ∧ Ac c 9 + Ac c 10 + Ac c 11 + Ac c 12 ≤ 96 := by omega
  clear e h0 h1 h2 h3
  generalize Ac c 9 + Ac c 10 + Ac c 11 + Ac c 12 = p9 at *
  generalize Nc c = N at *
  have w5 : IntKind.i64.wrap (28 * (N : Int)) = 28 * N := wrap64 (by omega) (by omega)
  have w6 : IntKind.i64.wrap (52 + 28 * (N : Int)) = 52 + 28 * N := wrap64 (by omega) (by omega)
  have w7 : IntKind.i64.wrap (52 + 28 * (N : Int) + 4 * p9) = 52 + 28 * N + 4 * p9 := wrap64 (by omega) (by omega)
  simp -implicitDefEqProofs only [g16, g16_0, asI_i, asN_n, asL_l, asB_b, asX_x, asE_nil, ↓y1, y2, y3, y4, y5, y6, ↓reduceIte, y7, y8, y9, ya, yb, yc, yd, ye, yf, yg, yh, yi, yj, yk, optK_some, altK_0, altK_1, x4, l13, t4, t5, t8, hco, w5, w6, w7]
/-! ### Frames that are the same -/
structure Eqv (c d : List NC) : Prop where
  a : ∀ j, j < 29 → j ≠ 4 → Ac c j = Ac d j
  t : Tc c = Tc d
theorem sub_eqv {c d : List NC} (hc : c.length = 29) (hd : d.length = 29) (h : Eqv c d) (o n : Nat) (ho : o + n ≤ 29) (h4 : ∀ k, k < n → o + k ≠ 4) : List.map NC.i (List.take n (List.drop o c)) = List.map NC.i (List.take n (List.drop o d)) := by
  refine List.ext_getElem? fun k => ?_
  rw [List.getElem?_map, List.getElem?_map, List.getElem?_take, List.getElem?_take]
  by_cases hk : k < n
  · rw [if_pos hk, if_pos hk, List.getElem?_drop, List.getElem?_drop, getc hc (j := o + k) (by omega), getc hd (j := o + k) (by omega)]
    exact congrArg some (h.a (o + k) (by omega) (h4 k hk))
  · rw [if_neg hk, if_neg hk]
theorem same_ok (c d : List NC) (hc : c.length = 29) (hd : d.length = 29) (h : Eqv c d) (hn : Nc c ≤ 5) : g9 (0, [.x c, .x d]) = some (0, [.b true]) := by
  have hx4 := getc hc (j := 4) (by omega)
  have hy4 := getc hd (j := 4) (by omega)
  have t4 : (c.getD 4 ⟨0, []⟩).l = Tc c := rfl
  have t5 : List.length (Tc c) / 2 = Nc c := rfl
  have u4 : (d.getD 4 ⟨0, []⟩).l = Tc c := h.t.symm
  have hl : L9_0 (0, [.i 0, .x c, .x d]) = some (0, [.x c, .x d]) := by
    refine loop1_run (fun k => [.i (k : Int), .x c, .x d]) (Nc c) (fun k hk => ?_) ?_ (by omega)
    · have w3 : IntKind.i64.wrap ((k : Int) + 1) = ((k + 1 : Nat) : Int) := wrap_nat (n := k + 1) (by omega)
      have c1 : (k : Int) < (Nc c : Int) := by omega
      have c2 : (0 : Int) ≤ k := by omega
      have c3 : k * 2 + 2 ≤ (Tc c).length := by have : Nc c = (Tc c).length / 2 := rfl; omega
      have cl := cT_len (h := Tc c) (k := k) c3
      generalize c.getD 4 ⟨0, []⟩ = v at *
      generalize d.getD 4 ⟨0, []⟩ = v' at *
      simp -implicitDefEqProofs only [f9_0, f9_0_0, asI_i, asN_n, asL_l, asB_b, asX_x, asE_nil, ↓y1, y2, y3, y4, y5, y6, ↓reduceIte, y7, y8, y9, ya, yb, yc, yd, ye, yf, yg, yh, yi, yj, yk, optK_some, altK_0, altK_1, hx4, hy4, t4, t5, u4, c1, c2, c3, cl, w3]
    · have c1 : ¬ (Nc c : Int) < (Nc c : Int) := Int.lt_irrefl _
      simp -implicitDefEqProofs only [f9_0, f9_0_0, asI_i, asN_n, asL_l, asB_b, asX_x, asE_nil, ↓y1, y2, y3, y4, y5, y6, ↓reduceIte, y7, y8, y9, ya, yb, yc, yd, ye, yf, yg, yh, yi, yj, yk, optK_some, altK_0, altK_1, hx4, hy4, t4, t5, u4, c1]
  have s0 : List.map NC.i (List.take 4 c) = List.map NC.i (List.take 4 d) := sub_eqv hc hd h 0 4 (by omega) (by omega)
  have s5 := sub_eqv hc hd h 5 4 (by omega) (by omega)
  have s9 := sub_eqv hc hd h 9 4 (by omega) (by omega)
  have s13 := sub_eqv hc hd h 13 16 (by omega) (by omega)
  have l0 : (List.map NC.i (List.take 4 d)).length = 4 := by rw [List.length_map, List.length_take]; omega
  have l5 : (List.map NC.i (List.take 4 (List.drop 5 d))).length = 4 := by rw [List.length_map, List.length_take, List.length_drop]; omega
  have l9 : (List.map NC.i (List.take 4 (List.drop 9 d))).length = 4 := by rw [List.length_map, List.length_take, List.length_drop]; omega
  have l13 : (List.map NC.i (List.take 16 (List.drop 13 d))).length = 16 := by rw [List.length_map, List.length_take, List.length_drop]; omega
  have i4 : (4 : Nat) ≤ 29 := by omega
  have i9 : (9 : Nat) ≤ 29 := by omega
  have i13 : (13 : Nat) ≤ 29 := by omega
  simp -implicitDefEqProofs only [g9, g9_0, asI_i, asN_n, asL_l, asB_b, asX_x, asE_nil, ↓y1, y2, y3, y4, y5, y6, ↓reduceIte, y7, y8, y9, ya, yb, yc, yd, ye, yf, yg, yh, yi, yj, yk, optK_some, altK_0, altK_1, hx4, hy4, t4, t5, u4, hl, hc, hd, s0, s5, s9, s13, l0, l5, l9, l13, i4, i9, i13]
end Go.Proofs.Ytdngjlgbebmbhaa
