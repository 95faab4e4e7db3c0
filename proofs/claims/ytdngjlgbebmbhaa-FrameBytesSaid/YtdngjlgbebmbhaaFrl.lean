/-
  The law FrameBytes. Conditions: none.
-/
import Derived.Test.YtdngjlgbebmbhaaDecL5
import Derived.Test.YtdngjlgbebmbhaaFrc
namespace Go.Proofs.Ytdngjlgbebmbhaa
open Go Go.Sx G J K L
set_option maxRecDepth 100000
set_option maxHeartbeats 8000000
set_option linter.unusedVariables false
set_option linter.unusedSimpArgs false
attribute [local simp] asI_i asB_b asL_l asN_n asS_s asE_nil altK_none altK_0 altK_1 altK_2 altK_3 optK_some optK_none Bool.cond_decide Bool.cond_not Int.toNat_natCast
set_option linter.unusedSimpArgs false
theorem fine_read {P : List Int} {n : Nat} (hB : ∀ x ∈ P, 0 ≤ x ∧ x ≤ 255) (hl : n ≤ P.length) (hn : n ≤ 1000) (hf : Fine P n) : K.g18 (0, [.n n, .l P]) = if cnt P = 0 then some (0, fln (fB P) 0) else some (1, fls (fB P) (cnt P) 0 (tl P (cnt P))) := by
  rcases read_ok P n hB hl hn with ⟨e, _, _, h⟩ | ⟨_, h⟩
  · exact absurd hf h
  · exact h
theorem tl_take (P : List Int) (N : Nat) : List.take (N * 2) (List.drop (nat_lit 0) (tl P N)) = tl P N := by
  rw [drop_0]; exact List.take_of_length_le (by rw [tl_len]; exact Nat.le_refl _)
theorem raw1 {P : List Int} {n : Nat} (h : P.length = n) : List.take (n * 1) (List.drop (nat_lit 0) P) = P := by
  rw [drop_0]; exact List.take_of_length_le (by omega)
theorem law5 (c : List NC) (hc : c.length = 29) (ht : (Tc c).length = Nc c * 2) (size : Int) : g5 (0, [.x c, .i size]) = some (0, [.b true]) := by
  have hF := few_ok c hc ht
  have hw := few_wf hc ht
  generalize fewC c = c0 at *
  have l0 := hw.len
  have c29 : (29 : Nat) ≤ 29 := Nat.le_refl _
  have k0 := take29 l0
  have kc := take29 hc
  have hF : g7 (0, [.x (List.take 29 c)]) = some (0, [.x c0]) := by rw [kc]; exact hF
  have hR : G.g15 (0, [.x (List.take 29 c0)]) = some (0, [.b (rB c0)]) := by rw [k0]; exact right_ok c0 hw
  have hL : G.g11 (0, [.x (List.take 29 c0)]) = some (0, [.b (rB c0)]) := by rw [k0]; exact lright_ok c0 hw
  obtain ⟨s, hs, hsz⟩ : ∃ s : Int, s ≤ 200 ∧ ((200 < size ∧ s = 200) ∨ (¬ 200 < size ∧ s = size)) := by
    by_cases q : 200 < size
    · exact ⟨200, by omega, .inl ⟨q, rfl⟩⟩
    · exact ⟨size, by omega, .inr ⟨q, rfl⟩⟩
  cases hr : rB c0 with
  | false =>
    rw [hr] at hR hL
    have hB : J.g14 (0, [.x (List.take 29 c0), .i s]) = some (0, [.i 4]) := by rw [k0]; exact fbytes_no c0 hw hr s
    rcases hsz with ⟨q, rfl⟩ | ⟨q, rfl⟩ <;> simp -implicitDefEqProofs only [g5, g5_0, fln, fls, ↓L.asI4_i, ↓asI_i, ↓asN_n, ↓asL_l, ↓asB_b, ↓asX_x, ↓asE_nil, ↓y1, y2, y3, y4, y5, y6, ↓reduceIte, ↓altK_0, ↓altK_1, ↓altK_2, ↓altK_3, yg, ye, yf, ya, if_true, if_false, y7, y9, yh, yi, yb, yc, yd, c29, l0, hc, ↓altK_of hF, ↓altK_of hR, ↓altK_of hL, ↓altK_of awakeL_ok, q, ↓altK_of hB]
  | true =>
    rw [hr] at hR hL
    have hp := rB_iff.1 hr
    have hBi : G.g16 (0, [.x (List.take 29 c0)]) = some (0, [.i (mC c0)]) := by rw [k0]; exact bits_ok' c0 hw hp
    have hMa : G.g17 (0, [.x (List.take 29 c0)]) = some (0, [.i (mC c0)]) := by rw [k0]; exact many_ok c0 hw hp
    have hB : J.g14 (0, [.x (List.take 29 c0), .i s]) = some (if s < 0 then (0, [.i 1]) else if 8 * s < (mC c0 : Int) then (0, [.i 3]) else (1, [.n s.toNat, .i 0, .l (packL (eQ c0 16) s.toNat)])) := by rw [k0]; exact fbytes c0 hw hp s (by omega)
    have hm0 : (52 : Int) ≤ (mC c0 : Int) ∧ (mC c0 : Int) ≤ 1000 := by
      have h0 := hp.w 0 (by omega); have h1 := hp.w 1 (by omega); have h2 := hp.w 2 (by omega); have h3 := hp.w 3 (by omega); have := hp.n
      unfold mC wc; omega
    generalize hM : (mC c0 : Int) = M at *
    by_cases a : s < 0
    · rw [if_pos a] at hB
      rcases hsz with ⟨q, rfl⟩ | ⟨q, rfl⟩
      · omega
      · simp -implicitDefEqProofs only [g5, g5_0, fln, fls, ↓L.asI4_i, ↓asI_i, ↓asN_n, ↓asL_l, ↓asB_b, ↓asX_x, ↓asE_nil, ↓y1, y2, y3, y4, y5, y6, ↓reduceIte, ↓altK_0, ↓altK_1, ↓altK_2, ↓altK_3, yg, ye, yf, ya, if_true, if_false, y7, y9, yh, yi, yb, yc, yd, c29, l0, hc, ↓altK_of hF, ↓altK_of hR, ↓altK_of hL, ↓altK_of awakeL_ok, q, a, ↓altK_of hB, ↓altK_of hBi, ↓altK_of hMa]
    rw [if_neg a] at hB
    by_cases b : 8 * s < M
    · rw [if_pos b] at hB
      rcases hsz with ⟨q, rfl⟩ | ⟨q, rfl⟩
      · have b' : 1600 < M := by omega
        simp -implicitDefEqProofs only [g5, g5_0, fln, fls, ↓L.asI4_i, ↓asI_i, ↓asN_n, ↓asL_l, ↓asB_b, ↓asX_x, ↓asE_nil, ↓y1, y2, y3, y4, y5, y6, ↓reduceIte, ↓altK_0, ↓altK_1, ↓altK_2, ↓altK_3, yg, ye, yf, ya, if_true, if_false, y7, y9, yh, yi, yb, yc, yd, c29, l0, hc, ↓altK_of hF, ↓altK_of hR, ↓altK_of hL, ↓altK_of awakeL_ok, q, b', ↓altK_of hB, ↓altK_of hBi, ↓altK_of hMa]
      · have w8 : IntKind.i64.wrap (8 * s) = 8 * s := wrap64 (by omega) (by omega)
        simp -implicitDefEqProofs only [g5, g5_0, fln, fls, ↓L.asI4_i, ↓asI_i, ↓asN_n, ↓asL_l, ↓asB_b, ↓asX_x, ↓asE_nil, ↓y1, y2, y3, y4, y5, y6, ↓reduceIte, ↓altK_0, ↓altK_1, ↓altK_2, ↓altK_3, yg, ye, yf, ya, if_true, if_false, y7, y9, yh, yi, yb, yc, yd, c29, l0, hc, ↓altK_of hF, ↓altK_of hR, ↓altK_of hL, ↓altK_of awakeL_ok, q, a, b, w8, ↓altK_of hB, ↓altK_of hBi, ↓altK_of hMa]
    rw [if_neg b] at hB
    generalize hn : s.toNat = n at *
    have hmn : mC c0 ≤ 8 * n := by omega
    have hLb : J.g19 (0, [.x (List.take 29 c0), .i s]) = some (0, [.n n, .l (packL (eQ c0 16) n)]) := by
      rw [k0, ← hn]; exact lbytes c0 hw hp s (by omega) (by omega) (by rw [hM]; omega)
    have hfine := fine_ok hw hp hmn
    have heq := dec_eqv hw (dec_ok hp hmn)
    have hin := pack_in (eQ_01 c0 16) n
    have hpl := pack_len (eQ c0 16) n
    generalize packL (eQ c0 16) n = P at *
    have hRd := fine_read hin (by omega) (by omega) hfine
    have hS := same_ok c0 _ l0 rfl heq hw.few
    rw [← k0] at hS
    have r1 := raw1 hpl
    have n1 : n * 1 ≤ n := by omega
    have hRd' : K.g18 (0, [.n (List.length (NC.l { i := 0, l := List.take (n * 1) (List.drop (nat_lit 0) P) })), .l (NC.l { i := 0, l := List.take (n * 1) (List.drop (nat_lit 0) P) })]) = if cnt P = 0 then some (0, fln (fB P) 0) else some (1, fls (fB P) (cnt P) 0 (tl P (cnt P))) := by
      rw [r1]; show K.g18 (0, [.n P.length, .l P]) = _; rw [hpl]; exact hRd
    by_cases z : cnt P = 0
    · rw [if_pos z] at hRd'
      unfold fln at hRd'
      have hS : G.g9 (0, [.x (List.take 29 c0), .x (nfr (fB P) [])]) = some (0, [.b true]) := by rw [z] at hS; exact hS
      unfold nfr at hS
      rcases hsz with ⟨q, rfl⟩ | ⟨q, rfl⟩
      · have b' : ¬ 1600 < M := by omega
        simp -implicitDefEqProofs only [g5, g5_0, fln, fls, ↓L.asI4_i, ↓asI_i, ↓asN_n, ↓asL_l, ↓asB_b, ↓asX_x, ↓asE_nil, ↓y1, y2, y3, y4, y5, y6, ↓reduceIte, ↓altK_0, ↓altK_1, ↓altK_2, ↓altK_3, yg, ye, yf, ya, if_true, if_false, y7, y9, yh, yi, yb, yc, yd, c29, l0, hc, ↓altK_of hF, ↓altK_of hR, ↓altK_of hL, ↓altK_of awakeL_ok, q, b', n1, hpl, ↓altK_of hB, ↓altK_of hBi, ↓altK_of hMa, ↓altK_of hRd', ↓altK_of hLb, ↓altK_of hS]
      · have w8 : IntKind.i64.wrap (8 * s) = 8 * s := wrap64 (by omega) (by omega)
        simp -implicitDefEqProofs only [g5, g5_0, fln, fls, ↓L.asI4_i, ↓asI_i, ↓asN_n, ↓asL_l, ↓asB_b, ↓asX_x, ↓asE_nil, ↓y1, y2, y3, y4, y5, y6, ↓reduceIte, ↓altK_0, ↓altK_1, ↓altK_2, ↓altK_3, yg, ye, yf, ya, if_true, if_false, y7, y9, yh, yi, yb, yc, yd, c29, l0, hc, ↓altK_of hF, ↓altK_of hR, ↓altK_of hL, ↓altK_of awakeL_ok, q, a, b, w8, n1, hpl, ↓altK_of hB, ↓altK_of hBi, ↓altK_of hMa, ↓altK_of hRd', ↓altK_of hLb, ↓altK_of hS]
    · rw [if_neg z] at hRd'
      unfold fls at hRd'
      have hS : G.g9 (0, [.x (List.take 29 c0), .x (nfr (fB P) (List.take (cnt P * 2) (List.drop (nat_lit 0) (tl P (cnt P)))))]) = some (0, [.b true]) := by rw [tl_take]; exact hS
      unfold nfr at hS
      have n2 : cnt P * 2 ≤ (tl P (cnt P)).length := by rw [tl_len]; exact Nat.le_refl _
      rcases hsz with ⟨q, rfl⟩ | ⟨q, rfl⟩
      · have b' : ¬ 1600 < M := by omega
        simp -implicitDefEqProofs only [g5, g5_0, fln, fls, ↓L.asI4_i, ↓asI_i, ↓asN_n, ↓asL_l, ↓asB_b, ↓asX_x, ↓asE_nil, ↓y1, y2, y3, y4, y5, y6, ↓reduceIte, ↓altK_0, ↓altK_1, ↓altK_2, ↓altK_3, yg, ye, yf, ya, if_true, if_false, y7, y9, yh, yi, yb, yc, yd, c29, l0, hc, ↓altK_of hF, ↓altK_of hR, ↓altK_of hL, ↓altK_of awakeL_ok, q, b', n1, n2, hpl, ↓altK_of hB, ↓altK_of hBi, ↓altK_of hMa, ↓altK_of hRd', ↓altK_of hLb, ↓altK_of hS]
      · have w8 : IntKind.i64.wrap (8 * s) = 8 * s := wrap64 (by omega) (by omega)
        simp -implicitDefEqProofs only [g5, g5_0, fln, fls, ↓L.asI4_i, ↓asI_i, ↓asN_n, ↓asL_l, ↓asB_b, ↓asX_x, ↓asE_nil, ↓y1, y2, y3, y4, y5, y6, ↓reduceIte, ↓altK_0, ↓altK_1, ↓altK_2, ↓altK_3, yg, ye, yf, ya, if_true, if_false, y7, y9, yh, yi, yb, yc, yd, c29, l0, hc, ↓altK_of hF, ↓altK_of hR, ↓altK_of hL, ↓altK_of awakeL_ok, q, a, b, w8, n1, n2, hpl, ↓altK_of hB, ↓altK_of hBi, ↓altK_of hMa, ↓altK_of hRd', ↓altK_of hLb, ↓altK_of hS]
theorem ev_bytes (c : List NC) (hc : c.length = 29) (ht : (Tc c).length = Nc c * 2) (size : Int) : ∃ d, evF tab d 5 [.nest ([.c (.int .i64), .c (.int .i64), .c (.int .i64), .c (.int .i64), .si .i64 2, .c (.int .i64), .c (.int .i64), .c (.int .i64), .c (.int .i64), .c (.int .i64), .c (.int .i64), .c (.int .i64), .c (.int .i64), .c (.int .i64), .c (.int .i64), .c (.int .i64), .c (.int .i64), .c (.int .i64), .c (.int .i64), .c (.int .i64), .c (.int .i64), .c (.int .i64), .c (.int .i64), .c (.int .i64), .c (.int .i64), .c (.int .i64), .c (.int .i64), .c (.int .i64), .c (.int .i64)]) c, .int .i64 size] [] = some (.bool true, [], []) :=
  ⟨_, (ok5 0).ret (i := 0) (ls := [.x c, .i size]) (j := 0) (r := [.b true]) (law5 c hc ht size) rfl rfl rfl rfl⟩
end Go.Proofs.Ytdngjlgbebmbhaa
