/-
  The law that numbers laid together are laid one by one. Conditions: none.
-/
import Derived.Test.YtkahlinndcnjiaaPut
namespace Go.Proofs.Ytkahlinndcnjiaa
open Go Go.Sx
set_option maxRecDepth 100000
set_option linter.unusedVariables false
attribute [local simp] asI_i asB_b asL_l asN_n asS_s asE_nil altK_none altK_0 altK_1 altK_2 altK_3 optK_some optK_none Bool.cond_decide Bool.cond_not Int.toNat_natCast
set_option linter.unusedSimpArgs false
def wsV (K : Int) (L : List Int) : Nat → Wr
  | 0 => ([], 0, 0)
  | k + 1 => wrV K (wsV K L k) (L.getD k 0)
theorem ws_ok (K : Int) (L : List Int) : ∀ k, WOk (57 * k) (wsV K L k)
  | 0 => ⟨show ([] : List Int).length = (0 + 7) / 8 from rfl, Nat.le_refl _⟩
  | k + 1 => wr_ok (ws_ok K L k)
theorem ws_mono (K : Int) (L : List Int) (k : Nat) : ∀ j, (wsV K L k).1.length ≤ (wsV K L (k + j)).1.length
  | 0 => Nat.le_refl _
  | j + 1 => Nat.le_trans (ws_mono K L k j) wr_mono
theorem ws_nil {K : Int} {L : List Int} {k : Nat} (h : (wsV K L k).1.length = 0) : wsV K L k = ([], 0, (wsV K L k).2.2) := by
  have hw := (ws_ok K L k).1
  unfold WS at hw
  simp only at hw
  have h0 : (wsV K L k).2.1 = 0 := by omega
  have h1 : (wsV K L k).1 = [] := List.eq_nil_of_length_eq_zero h
  rw [← h1, ← h0]
theorem ws_len (K : Int) (L : List Int) (k : Nat) (hk : k ≤ 30) : (wsV K L k).1.length ≤ 1000 := by
  have h := ws_ok K L k
  have hw := h.1
  unfold WS at hw
  simp only at hw
  have := h.2
  omega
theorem all_ok (K : Int) (L : List Int) (N : Nat) (hL : N ≤ L.length) (hN : N ≤ 30) :
    g17 (0, [.i K, .n N, .i 0, .i 0, .l L]) = some (if (wsV K L N).1.length = 0 then (0, [.i (wsV K L N).2.1, .i (wsV K L N).2.2, .l L]) else (1, [.n (wsV K L N).1.length, .i (wsV K L N).2.1, .i (wsV K L N).2.2, .l L, .l (wsV K L N).1])) := by
  have hl : L17_0 (0, [.i K, .n N, .i N, .i 0, .i 0, .i 0, .l L]) = some (if (wsV K L N).1.length = 0 then 0 else 3, if (wsV K L N).1.length = 0 then [.i (wsV K L N).2.1, .i (wsV K L N).2.2, .l L] else [.n (wsV K L N).1.length, .i (wsV K L N).2.1, .i (wsV K L N).2.2, .l L, .l (wsV K L N).1]) := by
    have main := loopL_run (m := 4) (f := f17_0) (fun k => if (wsV K L k).1.length = 0 then (0, [.i K, .n N, .i N, .i k, .i (wsV K L k).2.1, .i (wsV K L k).2.2, .l L]) else (3, [.i K, .n N, .i N, .i k, .n (wsV K L k).1.length, .i (wsV K L k).2.1, .i (wsV K L k).2.2, .l L, .l (wsV K L k).1])) N (j := if (wsV K L N).1.length = 0 then 0 else 3) (r := if (wsV K L N).1.length = 0 then [.i (wsV K L N).2.1, .i (wsV K L N).2.2, .l L] else [.n (wsV K L N).1.length, .i (wsV K L N).2.1, .i (wsV K L N).2.2, .l L, .l (wsV K L N).1]) (fun k hk => ⟨?_, by split <;> omega⟩) ?_ (by omega)
    · unfold L17_0; exact main
    · have hx : L[k]? = some (L.getD k 0) := get_some (by omega)
      have w2 : IntKind.i64.wrap ((k : Int) + 1) = ((k + 1 : Nat) : Int) := wrap_nat (n := k + 1) (by omega)
      have k1 : (k : Int) < N := by omega
      have k3 : (0 : Int) ≤ k ∧ (k : Int) < N := by omega
      have es : wsV K L (k + 1) = wrV K (wsV K L k) (L.getD k 0) := rfl
      have hok := ws_ok K L k
      have hn := ws_nil (K := K) (L := L) (k := k)
      generalize L.getD k 0 = v at *
      by_cases q : (wsV K L k).1.length = 0
      · have hn := hn q
        have hp := put_0 K v (wsV K L k).2.2
        rw [← hn, ← es] at hp
        rw [if_pos q]
        have e1 : (wsV K L k).2.1 = 0 := by rw [hn]
        have z : (((0 : Nat) : Int)) = 0 := rfl
        by_cases r : (wsV K L (k + 1)).1.length = 0
        · rw [if_pos r] at hp ⊢
          simp -implicitDefEqProofs only [f17_0, f17_0_0, asI_i, asN_n, asL_l, asE_nil, Bool.cond_decide, if_pos k1, if_pos k3, Int.toNat_natCast, hx, optK_some, e1, z, hp, altK_0, w2]
        · rw [if_neg r] at hp ⊢
          simp -implicitDefEqProofs only [f17_0, f17_0_0, asI_i, asN_n, asL_l, asE_nil, Bool.cond_decide, if_pos k1, if_pos k3, Int.toNat_natCast, hx, optK_some, e1, z, hp, altK_1, w2]
      · obtain ⟨j, hj, hp⟩ := put_1 K v (wsV K L k) ⟨hok.1, by have := hok.2; omega⟩
        rw [← es] at hp
        have hm := wr_mono (K := K) (s := wsV K L k) (v := v)
        rw [← es] at hm
        rw [if_neg q, if_neg (by omega)]
        rcases hj with rfl | rfl
        · simp -implicitDefEqProofs only [f17_0, f17_0_3, asI_i, asN_n, asL_l, asE_nil, Bool.cond_decide, if_pos k1, if_pos k3, Int.toNat_natCast, hx, optK_some, hp, altK_1, w2]
        · simp -implicitDefEqProofs only [f17_0, f17_0_3, asI_i, asN_n, asL_l, asE_nil, Bool.cond_decide, if_pos k1, if_pos k3, Int.toNat_natCast, hx, optK_some, hp, altK_2, w2]
    · by_cases q : (wsV K L N).1.length = 0
      · rw [if_pos q, if_pos q, if_pos q]
        simp -implicitDefEqProofs only [f17_0, f17_0_0, asI_i, asN_n, asL_l, asE_nil, Bool.cond_decide, if_neg (Int.lt_irrefl _)]
      · rw [if_neg q, if_neg q, if_neg q]
        simp -implicitDefEqProofs only [f17_0, f17_0_3, asI_i, asN_n, asL_l, asE_nil, Bool.cond_decide, if_neg (Int.lt_irrefl _)]
  by_cases q : (wsV K L N).1.length = 0
  · rw [if_pos q, if_pos q] at hl
    rw [if_pos q]
    simp -implicitDefEqProofs only [g17, g17_0, asI_i, asN_n, asL_l, asE_nil, hl, altK_0]
  · rw [if_neg q, if_neg q] at hl
    rw [if_neg q]
    simp -implicitDefEqProofs only [g17, g17_0, asI_i, asN_n, asL_l, asE_nil, hl, altK_3]
theorem loop_nil (K : Int) (L : List Int) (N : Nat) (hL : N ≤ L.length) (hN : N ≤ 30) (h0 : (wsV K L N).1.length = 0) (nv ev : Int) :
    L5_0 (0, [.i K, .n N, .i 0, .l L, .i nv, .i ev, .i 0, .i 0]) = some (0, [.l L, .i nv, .i ev, .i (wsV K L N).2.1, .i (wsV K L N).2.2]) := by
  refine loopL_run (m := 6) (f := f5_0) (fun k => (0, [.i K, .n N, .i k, .l L, .i nv, .i ev, .i (wsV K L k).2.1, .i (wsV K L k).2.2])) N (fun k hk => ⟨?_, by show 0 < 6; omega⟩) ?_ (by omega)
  · have hx : L[k]? = some (L.getD k 0) := get_some (by omega)
    have w2 : IntKind.i64.wrap ((k : Int) + 1) = ((k + 1 : Nat) : Int) := wrap_nat (n := k + 1) (by omega)
    have k1 : (k : Int) < N := by omega
    have k3 : (0 : Int) ≤ k ∧ (k : Int) < N := by omega
    have es : wsV K L (k + 1) = wrV K (wsV K L k) (L.getD k 0) := rfl
    have m1 := ws_mono K L k (N - k)
    have m2 := ws_mono K L (k + 1) (N - (k + 1))
    rw [show k + (N - k) = N by omega] at m1
    rw [show k + 1 + (N - (k + 1)) = N by omega] at m2
    have q : (wsV K L k).1.length = 0 := by omega
    have r : (wsV K L (k + 1)).1.length = 0 := by omega
    have hn := ws_nil q
    have hp := put_0 K (L.getD k 0) (wsV K L k).2.2
    rw [← hn, ← es, if_pos r] at hp
    have e1 : (wsV K L k).2.1 = 0 := by rw [hn]
    have z : (((0 : Nat) : Int)) = 0 := rfl
    generalize L.getD k 0 = v at *
    simp -implicitDefEqProofs only [f5_0, f5_0_0, asI_i, asN_n, asL_l, asE_nil, Bool.cond_decide, if_pos k1, if_pos k3, Int.toNat_natCast, hx, optK_some, e1, z, hp, altK_0, w2]
  · simp -implicitDefEqProofs only [f5_0, f5_0_0, asI_i, asN_n, asL_l, asE_nil, Bool.cond_decide, if_neg (Int.lt_irrefl _)]
theorem loop_list (K : Int) (L : List Int) (N : Nat) (hL : N ≤ L.length) (hN : N ≤ 30) (h0 : ¬ (wsV K L N).1.length = 0) (lv : Nat) (nv ev : Int) (bv : List Int) :
    L5_0 (1, [.i K, .n N, .i 0, .l L, .n lv, .i nv, .i ev, .i 0, .i 0, .l bv]) = some (5, [.l L, .n lv, .i nv, .i ev, .n (wsV K L N).1.length, .i (wsV K L N).2.1, .i (wsV K L N).2.2, .l bv, .l (wsV K L N).1]) := by
  have main := loopL_run (m := 6) (f := f5_0) (fun k => if (wsV K L k).1.length = 0 then (1, [.i K, .n N, .i k, .l L, .n lv, .i nv, .i ev, .i (wsV K L k).2.1, .i (wsV K L k).2.2, .l bv]) else (5, [.i K, .n N, .i k, .l L, .n lv, .i nv, .i ev, .n (wsV K L k).1.length, .i (wsV K L k).2.1, .i (wsV K L k).2.2, .l bv, .l (wsV K L k).1])) N (j := 5) (r := [.l L, .n lv, .i nv, .i ev, .n (wsV K L N).1.length, .i (wsV K L N).2.1, .i (wsV K L N).2.2, .l bv, .l (wsV K L N).1]) (fun k hk => ⟨?_, by split <;> omega⟩) ?_ (by omega)
  · unfold L5_0; exact main
  · have hx : L[k]? = some (L.getD k 0) := get_some (by omega)
    have w2 : IntKind.i64.wrap ((k : Int) + 1) = ((k + 1 : Nat) : Int) := wrap_nat (n := k + 1) (by omega)
    have k1 : (k : Int) < N := by omega
    have k3 : (0 : Int) ≤ k ∧ (k : Int) < N := by omega
    have es : wsV K L (k + 1) = wrV K (wsV K L k) (L.getD k 0) := rfl
    have hok := ws_ok K L k
    have hn := ws_nil (K := K) (L := L) (k := k)
    generalize L.getD k 0 = v at *
    by_cases q : (wsV K L k).1.length = 0
    · have hn := hn q
      have hp := put_0 K v (wsV K L k).2.2
      rw [← hn, ← es] at hp
      rw [if_pos q]
      have e1 : (wsV K L k).2.1 = 0 := by rw [hn]
      have z : (((0 : Nat) : Int)) = 0 := rfl
      by_cases r : (wsV K L (k + 1)).1.length = 0
      · rw [if_pos r] at hp ⊢
        simp -implicitDefEqProofs only [f5_0, f5_0_1, asI_i, asN_n, asL_l, asE_nil, Bool.cond_decide, if_pos k1, if_pos k3, Int.toNat_natCast, hx, optK_some, e1, z, hp, altK_0, w2]
      · rw [if_neg r] at hp ⊢
        simp -implicitDefEqProofs only [f5_0, f5_0_1, asI_i, asN_n, asL_l, asE_nil, Bool.cond_decide, if_pos k1, if_pos k3, Int.toNat_natCast, hx, optK_some, e1, z, hp, altK_1, w2]
    · obtain ⟨j, hj, hp⟩ := put_1 K v (wsV K L k) ⟨hok.1, by have := hok.2; omega⟩
      rw [← es] at hp
      have hm := wr_mono (K := K) (s := wsV K L k) (v := v)
      rw [← es] at hm
      rw [if_neg q, if_neg (by omega)]
      rcases hj with rfl | rfl
      · simp -implicitDefEqProofs only [f5_0, f5_0_5, asI_i, asN_n, asL_l, asE_nil, Bool.cond_decide, if_pos k1, if_pos k3, Int.toNat_natCast, hx, optK_some, hp, altK_1, w2]
      · simp -implicitDefEqProofs only [f5_0, f5_0_5, asI_i, asN_n, asL_l, asE_nil, Bool.cond_decide, if_pos k1, if_pos k3, Int.toNat_natCast, hx, optK_some, hp, altK_2, w2]
  · rw [if_neg h0]
    simp -implicitDefEqProofs only [f5_0, f5_0_5, asI_i, asN_n, asL_l, asE_nil, Bool.cond_decide, if_neg (Int.lt_irrefl _)]
def outV (bl : List Int) : List Int := List.take (Min.min bl.length 1000 * 1) bl ++ List.drop (0 + List.length (List.take (Min.min bl.length 1000 * 1) bl)) (List.replicate 1000 0)
theorem out_len (bl : List Int) : (outV bl).length = 1000 := by
  unfold outV
  rw [List.length_append, List.length_drop, List.length_replicate, List.length_take]
  omega
theorem bytes_0 (n e : Int) : g13 (0, [.i 1000, .i n, .i e]) = some (if e = 0 then (0, [.n 1000, .i 0, .i n, .i e, .l (List.replicate 1000 0)]) else (1, [.i e, .i n, .i e])) := by
  have t1 : Int.toNat 1000 = 1000 := rfl
  by_cases c : e = 0
  · rw [if_pos c]
    simp -implicitDefEqProofs only [g13, g13_0, asI_i, asE_nil, Bool.cond_decide, if_neg (show ¬ e ≠ 0 from fun q => q c), if_neg (show ¬ (1000 : Int) < 0 by omega), if_true, if_pos (show (0 : Int) ≤ 1000 by omega), if_pos (show (1 : Int) * 1000 ≤ 140737488355328 by omega), if_pos (show (1000 : Int) ≤ 9223372036854775807 by omega), t1]
  · rw [if_neg c]
    simp -implicitDefEqProofs only [g13, g13_0, asI_i, asE_nil, Bool.cond_decide, if_pos (show e ≠ 0 from c)]
theorem bytes_1 (n e : Int) (bl : List Int) (hb : bl.length ≤ 1000) : g13 (1, [.i 1000, .n bl.length, .i n, .i e, .l bl]) = some (if e = 0 then (2, [.n 1000, .i 0, .n bl.length, .i n, .i e, .l bl, .l (outV bl)]) else (3, [.i e, .n bl.length, .i n, .i e, .l bl])) := by
  have t1 : Int.toNat 1000 = 1000 := rfl
  have hlt : (List.take (Min.min bl.length 1000 * 1) bl).length = bl.length := by rw [List.length_take]; omega
  by_cases c : e = 0
  · rw [if_pos c]
    unfold outV
    simp -implicitDefEqProofs only [g13, g13_1, asI_i, asN_n, asL_l, asE_nil, Bool.cond_decide, if_neg (show ¬ e ≠ 0 from fun q => q c), if_neg (show ¬ (1000 : Int) < 0 by omega), if_neg (show ¬ (1000 : Int) < bl.length by omega), if_true, if_pos (show (0 : Int) ≤ 1000 by omega), if_pos (show (1 : Int) * 1000 ≤ 140737488355328 by omega), if_pos (show (1000 : Int) ≤ 9223372036854775807 by omega), t1, if_pos (show Min.min bl.length 1000 ≤ bl.length by omega), if_pos (show 0 + Min.min bl.length 1000 * 1 ≤ bl.length by omega), hlt, List.length_replicate, if_pos (show 0 + bl.length ≤ 1000 by omega)]
  · rw [if_neg c]
    simp -implicitDefEqProofs only [g13, g13_1, asI_i, asN_n, asL_l, asE_nil, Bool.cond_decide, if_pos (show e ≠ 0 from c)]
theorem same_ok (b : List Int) (hb : b.length = 1000) : g15 (0, [.n 1000, .n 1000, .l b, .l b]) = some (0, [.b true, .l b, .l b]) := by
  simp -implicitDefEqProofs only [g15, g15_0, asN_n, asL_l, asE_nil, if_pos (show 0 + 1000 ≤ b.length by omega), decide_true]
theorem many_n (K : Int) (l : List Int) (n N : Nat) (hN : N = min 30 n) (hl : n ≤ l.length) : g5 (0, [.i K, .n n, .l l]) = some (0, [.b true, .l l]) := by
  have ha := all_ok K l N (by omega) (by omega)
  have hlen := ws_len K l N (by omega)
  have hs3 : g15 (3, []) = some (2, []) := by kernel_rfl
  have key : ∀ (P : Option (Nat × List Leaf)), True := fun _ => trivial
  clear key
  by_cases q : (wsV K l N).1.length = 0
  · have hp := loop_nil K l N (by omega) (by omega) q (wsV K l N).2.1 (wsV K l N).2.2
    rw [if_pos q] at ha
    have hb := bytes_0 (wsV K l N).2.1 (wsV K l N).2.2
    generalize wsV K l N = s at *
    have so := same_ok (List.replicate 1000 0) (by rw [List.length_replicate])
    by_cases c : (30 : Int) < n
    · obtain rfl : N = 30 := by omega
      by_cases e : s.2.2 = 0
      · rw [if_pos e] at hb
        simp -implicitDefEqProofs only [g5, g5_0, asI_i, asN_n, asL_l, asB_b, asE_nil, Bool.cond_decide, if_pos c, if_pos (show (0 : Int) ≤ 30 ∧ (30 : Int) ≤ n by omega), ha, altK_0, altK_1, altK_2, hp, hb, if_true, so, cond_true, g14, g14_0, awakeL_ok]
      · rw [if_neg e] at hb
        simp -implicitDefEqProofs only [g5, g5_0, asI_i, asN_n, asL_l, asB_b, asE_nil, Bool.cond_decide, if_pos c, if_pos (show (0 : Int) ≤ 30 ∧ (30 : Int) ≤ n by omega), ha, altK_0, altK_1, altK_2, hp, hb, if_true, hs3, cond_true, g14, g14_0, awakeL_ok]
    · obtain rfl : N = n := by omega
      by_cases e : s.2.2 = 0
      · rw [if_pos e] at hb
        simp -implicitDefEqProofs only [g5, g5_0, asI_i, asN_n, asL_l, asB_b, asE_nil, Bool.cond_decide, if_neg c, ha, altK_0, altK_1, altK_2, hp, hb, if_true, so, cond_true, g14, g14_0, awakeL_ok]
      · rw [if_neg e] at hb
        simp -implicitDefEqProofs only [g5, g5_0, asI_i, asN_n, asL_l, asB_b, asE_nil, Bool.cond_decide, if_neg c, ha, altK_0, altK_1, altK_2, hp, hb, if_true, hs3, cond_true, g14, g14_0, awakeL_ok]
  · have hp := loop_list K l N (by omega) (by omega) q (wsV K l N).1.length (wsV K l N).2.1 (wsV K l N).2.2 (wsV K l N).1
    rw [if_neg q] at ha
    have hb := bytes_1 (wsV K l N).2.1 (wsV K l N).2.2 (wsV K l N).1 hlen
    generalize wsV K l N = s at *
    have so := same_ok (outV s.1) (out_len s.1)
    by_cases c : (30 : Int) < n
    · obtain rfl : N = 30 := by omega
      by_cases e : s.2.2 = 0
      · rw [if_pos e] at hb
        simp -implicitDefEqProofs only [g5, g5_0, asI_i, asN_n, asL_l, asB_b, asE_nil, Bool.cond_decide, if_pos c, if_pos (show (0 : Int) ≤ 30 ∧ (30 : Int) ≤ n by omega), ha, altK_0, altK_1, altK_2, altK_3, altK_5, hp, hb, if_true, so, cond_true, g14, g14_1, awakeL_ok]
      · rw [if_neg e] at hb
        simp -implicitDefEqProofs only [g5, g5_0, asI_i, asN_n, asL_l, asB_b, asE_nil, Bool.cond_decide, if_pos c, if_pos (show (0 : Int) ≤ 30 ∧ (30 : Int) ≤ n by omega), ha, altK_0, altK_1, altK_2, altK_3, altK_5, hp, hb, if_true, hs3, cond_true, g14, g14_1, awakeL_ok]
    · obtain rfl : N = n := by omega
      by_cases e : s.2.2 = 0
      · rw [if_pos e] at hb
        simp -implicitDefEqProofs only [g5, g5_0, asI_i, asN_n, asL_l, asB_b, asE_nil, Bool.cond_decide, if_neg c, ha, altK_0, altK_1, altK_2, altK_3, altK_5, hp, hb, if_true, so, cond_true, g14, g14_1, awakeL_ok]
      · rw [if_neg e] at hb
        simp -implicitDefEqProofs only [g5, g5_0, asI_i, asN_n, asL_l, asB_b, asE_nil, Bool.cond_decide, if_neg c, ha, altK_0, altK_1, altK_2, altK_3, altK_5, hp, hb, if_true, hs3, cond_true, g14, g14_1, awakeL_ok]
theorem many_l (K : Int) (l : List Int) (n : Nat) (hl : l.length = n * 1) : ∃ d, evF tab d 5 [.int .i64 K, .slice 0 0 n 1] [⟨false, .ints .u64 l⟩] = some (.bool true, [⟨false, .ints .u64 l⟩], []) :=
  ⟨_, (ok5 0).ret (i := 0) (ls := [.i K, .n n, .l l]) (j := 0) (r := [.b true, .l l]) (many_n K l n _ rfl (by omega)) rfl rfl rfl rfl⟩
theorem many_nil (K : Int) : evF tab 30 5 [.int .i64 K, .nils] [] = some (.bool true, [], []) := by kernel_rfl
theorem many_d (K : Int) : evF tab 30 5 [.int .i64 K, .slice 0 0 0 1] [⟨true, .unk⟩] = some (.bool true, [⟨true, .unk⟩], []) := by kernel_rfl
end Go.Proofs.Ytkahlinndcnjiaa
