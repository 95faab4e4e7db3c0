/-
  The law FrameReads. Conditions: none.
-/
import Derived.Test.YtdngjlgbebmbhaaDecL6
import Derived.Test.YtdngjlgbebmbhaaFrc
namespace Go.Proofs.Ytdngjlgbebmbhaa
open Go Go.Sx G J K L
set_option maxRecDepth 100000
set_option maxHeartbeats 8000000
set_option linter.unusedVariables false
set_option linter.unusedSimpArgs false
attribute [local simp] asI_i asB_b asL_l asN_n asS_s asE_nil altK_none altK_0 altK_1 altK_2 altK_3 optK_some optK_none Bool.cond_decide Bool.cond_not Int.toNat_natCast
set_option linter.unusedSimpArgs false
theorem altm (x : Nat) : True := trivial
def byt (n : Int) : UInt8 := UInt8.ofNat (Int.toNat n)
theorem byt_inj {x y : Int} (hx : 0 ≤ x ∧ x ≤ 255) (hy : 0 ≤ y ∧ y ≤ 255) (h : byt x = byt y) : x = y := by
  have := congrArg UInt8.toNat h
  unfold byt at this
  rw [UInt8.toNat_ofNat', UInt8.toNat_ofNat'] at this
  omega
theorem map_inj : ∀ {X Y : List Int}, (∀ x ∈ X, 0 ≤ x ∧ x ≤ 255) → (∀ x ∈ Y, 0 ≤ x ∧ x ≤ 255) → List.map byt X = List.map byt Y → X = Y
  | [], [], _, _, _ => rfl
  | [], _ :: _, _, _, h => by cases h
  | _ :: _, [], _, _, h => by cases h
  | x :: X, y :: Y, hX, hY, h => by
    simp only [List.map_cons, List.cons.injEq] at h
    rw [byt_inj (hX x (by simp)) (hY y (by simp)) h.1, map_inj (fun z hz => hX z (by simp [hz])) (fun z hz => hY z (by simp [hz])) h.2]
theorem g_len {B : List Int} : mC (nfr (fB B) (tl B (cnt B))) = ps B 16 := by
  generalize hg : nfr (fB B) (tl B (cnt B)) = g at *
  have hT : Tc g = tl B (cnt B) := by rw [← hg]; rfl
  have hN : Nc g = cnt B := by unfold Nc; rw [hT, tl_len]; omega
  have hwq : ∀ k, k < 16 → wq g k = (wd B (k / 4)).toNat := fun k hk => by
    unfold wq
    rw [← hg, nfr_a _ _ _ (by omega) (by omega)]; unfold fB
    rw [if_neg (by omega), if_neg (by omega), if_pos (by omega), Nat.add_sub_cancel_left]
  have hps : ∀ k, k ≤ 16 → ps B k = 52 + 28 * Nc g + wsum g k := by
    intro k
    induction k with
    | zero => intro _; unfold ps wsum; rw [hN, Nat.add_zero]
    | succ k ih => intro hk; unfold ps wsum; rw [ih (by omega), hwq k (by omega)]; omega
  rw [← eQ_all, eQ_len, hps 16 (by omega)]
theorem n24 : ((2 : Int) = 4) = False := eq_false (by decide)
theorem n20 : ((2 : Int) = 0) = False := eq_false (by decide)
theorem n40 : ((4 : Int) = 0) = False := eq_false (by decide)
theorem n42 : ((4 : Int) = 2) = False := eq_false (by decide)
theorem tl_take (P : List Int) (N : Nat) : List.take (N * 2) (List.drop (nat_lit 0) (tl P N)) = tl P N := by
  rw [drop_0]; exact List.take_of_length_le (by rw [tl_len]; exact Nat.le_refl _)
theorem same_zero : G.g9 (0, [.x (nfr (fun _ => 0) []), .x (nfr (fun _ => 0) [])]) = some (0, [.b true]) := same_ok _ _ rfl rfl ⟨fun _ _ _ => rfl, rfl⟩ (Nat.zero_le _)
theorem law6_big (n : Nat) (B : List Int) (hB : ∀ x ∈ B, 0 ≤ x ∧ x ≤ 255) (hl : n ≤ B.length) (c : List NC) (hc : c.length = 29) (ht : (Tc c).length = Nc c * 2) (hn : (200 : Int) < (n : Int)) : g6 (0, [.n n, .l B, .x c]) = some (0, [.b true]) := by
  have hF := few_ok c hc ht
  have hw := few_wf hc ht
  generalize fewC c = c0 at *
  have l0 := hw.len
  have c29 : (29 : Nat) ≤ 29 := Nat.le_refl _
  have k0 := take29 l0
  have kc := take29 hc
  have hF : g7 (0, [.x (List.take 29 c)]) = some (0, [.x c0]) := by rw [kc]; exact hF
  have hL : G.g11 (0, [.x (List.take 29 c0)]) = some (0, [.b (rB c0)]) := by rw [k0]; exact lright_ok c0 hw
  have q := hn
  have q0 : (0 : Int) ≤ 200 := by omega
  have q1 : (200 : Int) ≤ (n : Int) := by omega
  obtain ⟨P, tB⟩ : ∃ P, List.take 200 B = P := ⟨_, rfl⟩
  have lP : P.length = 200 := by rw [← tB, List.length_take]; omega
  have tP : List.take 200 P = P := List.take_of_length_le (by omega)
  have hP : ∀ x ∈ P, 0 ≤ x ∧ x ≤ 255 := fun x hx => hB x (by rw [← tB] at hx; exact List.mem_of_mem_take hx)
  have hraw : List.take (Int.toNat 200 * 1) (List.take (Int.toNat 200 * nat_lit 1) B) = P := by show List.take 200 (List.take 200 B) = P; rw [tB, tP]
  have hRA := read_ok P 200 hP (by omega) (by omega)
  have hRd : K.g18 (0, [.n (List.length (NC.l { i := 0, l := List.take (Int.toNat 200 * 1) (List.take (Int.toNat 200 * nat_lit 1) B) })), .l (NC.l { i := 0, l := List.take (Int.toNat 200 * 1) (List.take (Int.toNat 200 * nat_lit 1) B) })]) = K.g18 (0, [.n 200, .l P]) := by
    rw [hraw]; show K.g18 (0, [.n P.length, .l P]) = _; rw [lP]
  rcases hRA with ⟨e, he, hx, hnf⟩ | ⟨hf, hx⟩
  · rw [hx] at hRd
    unfold fln at hRd
    have hS := same_zero
    unfold nfr at hS
    cases hr : rB c0 with
    | false =>
      rw [hr] at hL
      rcases he with rfl | rfl <;> simp -implicitDefEqProofs only [g6, g6_0, fln, fls, ↓L.asI4_i, ↓asI_i, ↓asN_n, ↓asL_l, ↓asB_b, ↓asX_x, ↓asE_nil, ↓y1, y2, y3, y4, y5, y6, ↓reduceIte, ↓altK_0, ↓altK_1, ↓altK_2, ↓altK_3, yg, ye, yf, ya, if_true, if_false, y7, y9, yh, yi, yb, yc, yd, c29, l0, hc, q, ↓altK_of hF, ↓altK_of hL, ↓altK_of awakeL_ok, lP, tP, tB, q0, q1, ↓altK_of hRd, ↓altK_of hS, n24, n20, n40, n42]
    | true =>
      rw [hr] at hL
      have hp := rB_iff.1 hr
      have hMa : G.g17 (0, [.x (List.take 29 c0)]) = some (0, [.i (mC c0)]) := by rw [k0]; exact many_ok c0 hw hp
      by_cases b : 8 * 200 < mC c0
      · generalize hM : (mC c0 : Int) = M at *
        have b' : 1600 < M := by omega
        rcases he with rfl | rfl <;> simp -implicitDefEqProofs only [g6, g6_0, fln, fls, ↓L.asI4_i, ↓asI_i, ↓asN_n, ↓asL_l, ↓asB_b, ↓asX_x, ↓asE_nil, ↓y1, y2, y3, y4, y5, y6, ↓reduceIte, ↓altK_0, ↓altK_1, ↓altK_2, ↓altK_3, yg, ye, yf, ya, if_true, if_false, y7, y9, yh, yi, yb, yc, yd, c29, l0, hc, q, ↓altK_of hF, ↓altK_of hL, ↓altK_of awakeL_ok, lP, tP, tB, q0, q1, ↓altK_of hRd, ↓altK_of hS, ↓altK_of hMa, b', n24, n20, n40, n42]
      · have hLb : J.g19 (0, [.x (List.take 29 c0), .i 200]) = some (0, [.n 200, .l (packL (eQ c0 16) 200)]) := by
          rw [k0]; exact lbytes c0 hw hp 200 (by omega) (by omega) (by omega)
        have hne : ¬ packL (eQ c0 16) 200 = P := fun h => hnf (by rw [← h]; exact fine_ok hw hp (by omega))
        have hin := pack_in (eQ_01 c0 16) 200
        have hpl := pack_len (eQ c0 16) 200
        generalize packL (eQ c0 16) 200 = Q at *
        have tQ : List.take 200 Q = Q := List.take_of_length_le (by omega)
        have hm : (List.map (fun n => UInt8.ofNat (Int.toNat n)) Q = List.map (fun n => UInt8.ofNat (Int.toNat n)) P) = False := eq_false fun h => hne (map_inj hin hP h)
        generalize hM : (mC c0 : Int) = M at *
        have b' : (1600 < M) = False := eq_false (by omega)
        rcases he with rfl | rfl <;> simp -implicitDefEqProofs only [g6, g6_0, fln, fls, ↓L.asI4_i, ↓asI_i, ↓asN_n, ↓asL_l, ↓asB_b, ↓asX_x, ↓asE_nil, ↓y1, y2, y3, y4, y5, y6, ↓reduceIte, ↓altK_0, ↓altK_1, ↓altK_2, ↓altK_3, yg, ye, yf, ya, if_true, if_false, y7, y9, yh, yi, yb, yc, yd, c29, l0, hc, q, ↓altK_of hF, ↓altK_of hL, ↓altK_of awakeL_ok, lP, tP, tB, q0, q1, ↓altK_of hRd, ↓altK_of hS, ↓altK_of hMa, ↓altK_of hLb, b', hpl, tQ, hm, n24, n20, n40, n42]
  · rw [hx] at hRd
    have hwf : WF (nfr (fB P) (tl P (cnt P))) := nfr_wf _ (tl_len P _) (by have := vK_in P 10 2; have : pw 2 = 4 := rfl; unfold cnt; omega)
    have hp := rB_iff.1 hf.2.2
    have hR := lright_ok _ hwf
    rw [hf.2.2] at hR
    have hm8 : mC (nfr (fB P) (tl P (cnt P))) ≤ 8 * 200 := by rw [g_len]; exact hf.1.len
    have hLb : J.g19 (0, [.x (nfr (fB P) (tl P (cnt P))), .i 200]) = some (0, [.n 200, .l P]) := by
      have h1 := lbytes _ hwf hp 200 (by omega) (by omega) (by omega)
      have h2 := back_ok hP (by omega : 200 ≤ P.length) hf
      rw [tP] at h2
      have h3 : (200 : Int).toNat = 200 := by omega
      rw [h3, h2] at h1
      exact h1
    by_cases z : cnt P = 0
    · rw [if_pos z] at hRd
      rw [z] at hR hLb
      have hR : G.g11 (0, [.x (nfr (fB P) [])]) = some (0, [.b true]) := hR
      have hLb : J.g19 (0, [.x (nfr (fB P) []), .i 200]) = some (0, [.n 200, .l P]) := hLb
      unfold fln at hRd
      unfold nfr at hR hLb
      simp -implicitDefEqProofs only [g6, g6_0, fln, fls, ↓L.asI4_i, ↓asI_i, ↓asN_n, ↓asL_l, ↓asB_b, ↓asX_x, ↓asE_nil, ↓y1, y2, y3, y4, y5, y6, ↓reduceIte, ↓altK_0, ↓altK_1, ↓altK_2, ↓altK_3, yg, ye, yf, ya, if_true, if_false, y7, y9, yh, yi, yb, yc, yd, c29, l0, hc, q, ↓altK_of hF, ↓altK_of hL, ↓altK_of awakeL_ok, lP, tP, tB, q0, q1, ↓altK_of hRd, ↓altK_of hR, ↓altK_of hLb]
    · rw [if_neg z] at hRd
      have hR : G.g11 (0, [.x (nfr (fB P) (List.take (cnt P * 2) (List.drop (nat_lit 0) (tl P (cnt P)))))]) = some (0, [.b true]) := by rw [tl_take]; exact hR
      have hLb : J.g19 (0, [.x (nfr (fB P) (List.take (cnt P * 2) (List.drop (nat_lit 0) (tl P (cnt P))))), .i 200]) = some (0, [.n 200, .l P]) := by rw [tl_take]; exact hLb
      have n2 : cnt P * 2 ≤ (tl P (cnt P)).length := by rw [tl_len]; exact Nat.le_refl _
      unfold fls at hRd
      unfold nfr at hR hLb
      simp -implicitDefEqProofs only [g6, g6_0, fln, fls, ↓L.asI4_i, ↓asI_i, ↓asN_n, ↓asL_l, ↓asB_b, ↓asX_x, ↓asE_nil, ↓y1, y2, y3, y4, y5, y6, ↓reduceIte, ↓altK_0, ↓altK_1, ↓altK_2, ↓altK_3, yg, ye, yf, ya, if_true, if_false, y7, y9, yh, yi, yb, yc, yd, c29, l0, hc, q, ↓altK_of hF, ↓altK_of hL, ↓altK_of awakeL_ok, lP, tP, tB, q0, q1, n2, ↓altK_of hRd, ↓altK_of hR, ↓altK_of hLb]
theorem law6_small (n : Nat) (B : List Int) (hB : ∀ x ∈ B, 0 ≤ x ∧ x ≤ 255) (hl : n ≤ B.length) (c : List NC) (hc : c.length = 29) (ht : (Tc c).length = Nc c * 2) (hn : ¬ (200 : Int) < (n : Int)) : g6 (0, [.n n, .l B, .x c]) = some (0, [.b true]) := by
  have hF := few_ok c hc ht
  have hw := few_wf hc ht
  generalize fewC c = c0 at *
  have l0 := hw.len
  have c29 : (29 : Nat) ≤ 29 := Nat.le_refl _
  have k0 := take29 l0
  have kc := take29 hc
  have hF : g7 (0, [.x (List.take 29 c)]) = some (0, [.x c0]) := by rw [kc]; exact hF
  have hL : G.g11 (0, [.x (List.take 29 c0)]) = some (0, [.b (rB c0)]) := by rw [k0]; exact lright_ok c0 hw
  have q := hn
  have q2 : n * 1 ≤ B.length := by omega
  have q3 : n ≤ B.length := hl
  have w8 : IntKind.i64.wrap (8 * (n : Int)) = 8 * n := wrap64 (by omega) (by omega)
  obtain ⟨P, tB⟩ : ∃ P, List.take n B = P := ⟨_, rfl⟩
  have lP : P.length = n := by rw [← tB, List.length_take]; omega
  have tP : List.take n P = P := List.take_of_length_le (by omega)
  have hP : ∀ x ∈ P, 0 ≤ x ∧ x ≤ 255 := fun x hx => hB x (by rw [← tB] at hx; exact List.mem_of_mem_take hx)
  have hraw : List.take (n * 1) B = P := by rw [Nat.mul_one]; exact tB
  have hRA := read_ok P n hP (by omega) (by omega)
  have hRd : K.g18 (0, [.n (List.length (NC.l { i := 0, l := List.take (n * 1) B })), .l (NC.l { i := 0, l := List.take (n * 1) B })]) = K.g18 (0, [.n n, .l P]) := by
    rw [hraw]; show K.g18 (0, [.n P.length, .l P]) = _; rw [lP]
  rcases hRA with ⟨e, he, hx, hnf⟩ | ⟨hf, hx⟩
  · rw [hx] at hRd
    unfold fln at hRd
    have hS := same_zero
    unfold nfr at hS
    cases hr : rB c0 with
    | false =>
      rw [hr] at hL
      rcases he with rfl | rfl <;> simp -implicitDefEqProofs only [g6, g6_0, fln, fls, ↓L.asI4_i, ↓asI_i, ↓asN_n, ↓asL_l, ↓asB_b, ↓asX_x, ↓asE_nil, ↓y1, y2, y3, y4, y5, y6, ↓reduceIte, ↓altK_0, ↓altK_1, ↓altK_2, ↓altK_3, yg, ye, yf, ya, if_true, if_false, y7, y9, yh, yi, yb, yc, yd, c29, l0, hc, q, ↓altK_of hF, ↓altK_of hL, ↓altK_of awakeL_ok, lP, tP, tB, q2, q3, w8, ↓altK_of hRd, ↓altK_of hS, n24, n20, n40, n42]
    | true =>
      rw [hr] at hL
      have hp := rB_iff.1 hr
      have hMa : G.g17 (0, [.x (List.take 29 c0)]) = some (0, [.i (mC c0)]) := by rw [k0]; exact many_ok c0 hw hp
      by_cases b : 8 * n < mC c0
      · generalize hM : (mC c0 : Int) = M at *
        have b' : 8 * (n : Int) < M := by omega
        rcases he with rfl | rfl <;> simp -implicitDefEqProofs only [g6, g6_0, fln, fls, ↓L.asI4_i, ↓asI_i, ↓asN_n, ↓asL_l, ↓asB_b, ↓asX_x, ↓asE_nil, ↓y1, y2, y3, y4, y5, y6, ↓reduceIte, ↓altK_0, ↓altK_1, ↓altK_2, ↓altK_3, yg, ye, yf, ya, if_true, if_false, y7, y9, yh, yi, yb, yc, yd, c29, l0, hc, q, ↓altK_of hF, ↓altK_of hL, ↓altK_of awakeL_ok, lP, tP, tB, q2, q3, w8, ↓altK_of hRd, ↓altK_of hS, ↓altK_of hMa, b', n24, n20, n40, n42]
      · have hLb : J.g19 (0, [.x (List.take 29 c0), .i (n : Int)]) = some (0, [.n n, .l (packL (eQ c0 16) n)]) := by
          rw [k0]; exact lbytes c0 hw hp (n : Int) (by omega) (by omega) (by omega)
        have hne : ¬ packL (eQ c0 16) n = P := fun h => hnf (by rw [← h]; exact fine_ok hw hp (by omega))
        have hin := pack_in (eQ_01 c0 16) n
        have hpl := pack_len (eQ c0 16) n
        generalize packL (eQ c0 16) n = Q at *
        have tQ : List.take n Q = Q := List.take_of_length_le (by omega)
        have hm : (List.map (fun n => UInt8.ofNat (Int.toNat n)) Q = List.map (fun n => UInt8.ofNat (Int.toNat n)) P) = False := eq_false fun h => hne (map_inj hin hP h)
        generalize hM : (mC c0 : Int) = M at *
        have b' : (8 * (n : Int) < M) = False := eq_false (by omega)
        rcases he with rfl | rfl <;> simp -implicitDefEqProofs only [g6, g6_0, fln, fls, ↓L.asI4_i, ↓asI_i, ↓asN_n, ↓asL_l, ↓asB_b, ↓asX_x, ↓asE_nil, ↓y1, y2, y3, y4, y5, y6, ↓reduceIte, ↓altK_0, ↓altK_1, ↓altK_2, ↓altK_3, yg, ye, yf, ya, if_true, if_false, y7, y9, yh, yi, yb, yc, yd, c29, l0, hc, q, ↓altK_of hF, ↓altK_of hL, ↓altK_of awakeL_ok, lP, tP, tB, q2, q3, w8, ↓altK_of hRd, ↓altK_of hS, ↓altK_of hMa, ↓altK_of hLb, b', hpl, tQ, hm, n24, n20, n40, n42]
  · rw [hx] at hRd
    have hwf : WF (nfr (fB P) (tl P (cnt P))) := nfr_wf _ (tl_len P _) (by have := vK_in P 10 2; have : pw 2 = 4 := rfl; unfold cnt; omega)
    have hp := rB_iff.1 hf.2.2
    have hR := lright_ok _ hwf
    rw [hf.2.2] at hR
    have hm8 : mC (nfr (fB P) (tl P (cnt P))) ≤ 8 * n := by rw [g_len]; exact hf.1.len
    have hLb : J.g19 (0, [.x (nfr (fB P) (tl P (cnt P))), .i (n : Int)]) = some (0, [.n n, .l P]) := by
      have h1 := lbytes _ hwf hp (n : Int) (by omega) (by omega) (by omega)
      have h2 := back_ok hP (by omega : n ≤ P.length) hf
      rw [tP] at h2
      have h3 : ((n : Int) : Int).toNat = n := by omega
      rw [h3, h2] at h1
      exact h1
    by_cases z : cnt P = 0
    · rw [if_pos z] at hRd
      rw [z] at hR hLb
      have hR : G.g11 (0, [.x (nfr (fB P) [])]) = some (0, [.b true]) := hR
      have hLb : J.g19 (0, [.x (nfr (fB P) []), .i (n : Int)]) = some (0, [.n n, .l P]) := hLb
      unfold fln at hRd
      unfold nfr at hR hLb
      simp -implicitDefEqProofs only [g6, g6_0, fln, fls, ↓L.asI4_i, ↓asI_i, ↓asN_n, ↓asL_l, ↓asB_b, ↓asX_x, ↓asE_nil, ↓y1, y2, y3, y4, y5, y6, ↓reduceIte, ↓altK_0, ↓altK_1, ↓altK_2, ↓altK_3, yg, ye, yf, ya, if_true, if_false, y7, y9, yh, yi, yb, yc, yd, c29, l0, hc, q, ↓altK_of hF, ↓altK_of hL, ↓altK_of awakeL_ok, lP, tP, tB, q2, q3, w8, ↓altK_of hRd, ↓altK_of hR, ↓altK_of hLb]
    · rw [if_neg z] at hRd
      have hR : G.g11 (0, [.x (nfr (fB P) (List.take (cnt P * 2) (List.drop (nat_lit 0) (tl P (cnt P)))))]) = some (0, [.b true]) := by rw [tl_take]; exact hR
      have hLb : J.g19 (0, [.x (nfr (fB P) (List.take (cnt P * 2) (List.drop (nat_lit 0) (tl P (cnt P))))), .i (n : Int)]) = some (0, [.n n, .l P]) := by rw [tl_take]; exact hLb
      have n2 : cnt P * 2 ≤ (tl P (cnt P)).length := by rw [tl_len]; exact Nat.le_refl _
      unfold fls at hRd
      unfold nfr at hR hLb
      simp -implicitDefEqProofs only [g6, g6_0, fln, fls, ↓L.asI4_i, ↓asI_i, ↓asN_n, ↓asL_l, ↓asB_b, ↓asX_x, ↓asE_nil, ↓y1, y2, y3, y4, y5, y6, ↓reduceIte, ↓altK_0, ↓altK_1, ↓altK_2, ↓altK_3, yg, ye, yf, ya, if_true, if_false, y7, y9, yh, yi, yb, yc, yd, c29, l0, hc, q, ↓altK_of hF, ↓altK_of hL, ↓altK_of awakeL_ok, lP, tP, tB, q2, q3, w8, n2, ↓altK_of hRd, ↓altK_of hR, ↓altK_of hLb]
theorem law6 (n : Nat) (B : List Int) (hB : ∀ x ∈ B, 0 ≤ x ∧ x ≤ 255) (hl : n ≤ B.length) (c : List NC) (hc : c.length = 29) (ht : (Tc c).length = Nc c * 2) : g6 (0, [.n n, .l B, .x c]) = some (0, [.b true]) := by
  by_cases h : (200 : Int) < (n : Int)
  · exact law6_big n B hB hl c hc ht h
  · exact law6_small n B hB hl c hc ht h
theorem ev_reads (n : Nat) (B : List Int) (hB : ∀ x ∈ B, (Lit.int .u8 x).wf = true) (hl : B.length = n * 1) (c : List NC) (hc : c.length = 29) (ht : (Tc c).length = Nc c * 2) : ∃ d, evF tab d 6 [.ro (.ints .u8 B) n 1, .nest ([.c (.int .i64), .c (.int .i64), .c (.int .i64), .c (.int .i64), .si .i64 2, .c (.int .i64), .c (.int .i64), .c (.int .i64), .c (.int .i64), .c (.int .i64), .c (.int .i64), .c (.int .i64), .c (.int .i64), .c (.int .i64), .c (.int .i64), .c (.int .i64), .c (.int .i64), .c (.int .i64), .c (.int .i64), .c (.int .i64), .c (.int .i64), .c (.int .i64), .c (.int .i64), .c (.int .i64), .c (.int .i64), .c (.int .i64), .c (.int .i64), .c (.int .i64), .c (.int .i64)]) c] [] = some (.bool true, [], []) :=
  ⟨_, (ok6 0).ret (i := 0) (ls := [.n n, .l B, .x c]) (j := 0) (r := [.b true]) (law6 n B (fun x hx => wf8 (hB x hx)) (by omega) c hc ht) rfl rfl rfl rfl⟩
end Go.Proofs.Ytdngjlgbebmbhaa
