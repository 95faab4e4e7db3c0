/-
  The law of what any filter tells of any samples. Conditions: none.
-/
import Derived.Test.YtgjmlenokdggoaaNumc
namespace Go.Proofs.Ytgjmlenokdggoaa
open Go Go.Sx
set_option maxRecDepth 100000
set_option linter.unusedVariables false
attribute [local simp] asI_i asB_b asL_l asN_n asS_s asE_nil altK_none altK_0 altK_1 altK_2 altK_3 optK_some optK_none Bool.cond_decide Bool.cond_not Int.toNat_natCast
set_option linter.unusedSimpArgs false
structure Q4 where
  x1 : Int
  x2 : Int
  y1 : Int
  y2 : Int
def Q4.ok (s : Q4) : Prop := (-32768 ≤ s.x1 ∧ s.x1 ≤ 32767) ∧ (-32768 ≤ s.x2 ∧ s.x2 ≤ 32767) ∧ (-32768 ≤ s.y1 ∧ s.y1 ≤ 32767) ∧ (-32768 ≤ s.y2 ∧ s.y2 ≤ 32767)
def okC (x : Int) : Prop := -32768 ≤ x ∧ x ≤ 32768
instance (x : Int) : Decidable (okC x) := by unfold okC; infer_instance
def Right (c0 c1 c2 c3 c4 : Int) : Prop := okC c0 ∧ okC c1 ∧ okC c2 ∧ okC c3 ∧ okC c4
instance (c0 c1 c2 c3 c4 : Int) : Decidable (Right c0 c1 c2 c3 c4) := by unfold Right; infer_instance
def sumV (c0 c1 c2 c3 c4 : Int) (s : Q4) (v : Int) : Int := c0 * satV v + c1 * s.x1 + c2 * s.x2 + c3 * s.y1 + c4 * s.y2
def outV (c0 c1 c2 c3 c4 : Int) (s : Q4) (v : Int) : Int := satV ((sumV c0 c1 c2 c3 c4 s v + 8192) / 16384)
def nxt (c0 c1 c2 c3 c4 : Int) (s : Q4) (v : Int) : Q4 := ⟨satV v, s.x1, outV c0 c1 c2 c3 c4 s v, s.y1⟩
theorem nxt_ok (c0 c1 c2 c3 c4 : Int) {s : Q4} (h : s.ok) (v : Int) : (nxt c0 c1 c2 c3 c4 s v).ok := by
  have h1 := satV_in v
  have h2 := satV_in ((sumV c0 c1 c2 c3 c4 s v + 8192) / 16384)
  exact ⟨h1, h.1, h2, h.2.2.1⟩
theorem pb {a b : Int} (ha : okC a) (hb : -32768 ≤ b ∧ b ≤ 32767) : -1073741824 ≤ a * b ∧ a * b ≤ 1073741824 := by
  unfold okC at ha
  rcases Int.le_total 0 a with h | h
  · have u1 := Int.mul_le_mul_of_nonneg_left hb.2 h
    have u2 := Int.mul_le_mul_of_nonneg_left hb.1 h
    omega
  · have u1 := Int.mul_le_mul_of_nonpos_left h hb.2
    have u2 := Int.mul_le_mul_of_nonpos_left h hb.1
    omega
theorem sum_w (c0 c1 c2 c3 c4 : Int) (hc : Right c0 c1 c2 c3 c4) {s : Q4} (h : s.ok) (v : Int) :
    IntKind.i64.wrap (IntKind.i64.wrap (IntKind.i64.wrap (IntKind.i64.wrap (IntKind.i64.wrap (c0 * satV v) + IntKind.i64.wrap (c1 * s.x1)) + IntKind.i64.wrap (c2 * s.x2)) + IntKind.i64.wrap (c3 * s.y1)) + IntKind.i64.wrap (c4 * s.y2)) = sumV c0 c1 c2 c3 c4 s v ∧ (-5368709120 ≤ sumV c0 c1 c2 c3 c4 s v ∧ sumV c0 c1 c2 c3 c4 s v ≤ 5368709120) := by
  obtain ⟨k0, k1, k2, k3, k4⟩ := hc
  have p0 := pb k0 (satV_in v)
  have p1 := pb k1 h.1
  have p2 := pb k2 h.2.1
  have p3 := pb k3 h.2.2.1
  have p4 := pb k4 h.2.2.2
  unfold sumV
  generalize c0 * satV v = e0 at *
  generalize c1 * s.x1 = e1 at *
  generalize c2 * s.x2 = e2 at *
  generalize c3 * s.y1 = e3 at *
  generalize c4 * s.y2 = e4 at *
  rw [wrap64 (x := e0) (by omega) (by omega), wrap64 (x := e1) (by omega) (by omega), wrap64 (x := e2) (by omega) (by omega), wrap64 (x := e3) (by omega) (by omega), wrap64 (x := e4) (by omega) (by omega),
    wrap64 (x := e0 + e1) (by omega) (by omega), wrap64 (x := e0 + e1 + e2) (by omega) (by omega), wrap64 (x := e0 + e1 + e2 + e3) (by omega) (by omega), wrap64 (x := e0 + e1 + e2 + e3 + e4) (by omega) (by omega)]
  exact ⟨rfl, by omega⟩
theorem next_ok (c0 c1 c2 c3 c4 : Int) (hc : Right c0 c1 c2 c3 c4) {s : Q4} (h : s.ok) (v : Int) : g10 (0, [.i v, .i c0, .i c1, .i c2, .i c3, .i c4, .i (s).x1, .i (s).x2, .i (s).y1, .i (s).y2]) = some (0, [.i (outV c0 c1 c2 c3 c4 s v), .i c0, .i c1, .i c2, .i c3, .i c4, .i (nxt c0 c1 c2 c3 c4 s v).x1, .i (nxt c0 c1 c2 c3 c4 s v).x2, .i (nxt c0 c1 c2 c3 c4 s v).y1, .i (nxt c0 c1 c2 c3 c4 s v).y2]) := by
  obtain ⟨w, b⟩ := sum_w c0 c1 c2 c3 c4 hc h v
  have hr := round14 (sumV c0 c1 c2 c3 c4 s v) (by unfold In64; omega)
  have hs : clampV v (-32768) 32767 = satV v := rfl
  simp -implicitDefEqProofs only [g10, g10_0, asI_i, asE_nil, clamp_ok, hs, altK_0, w, hr, sat_ok, outV, nxt]
theorem hold_ok (x : Int) : g19 (0, [.i x]) = some (0, [.i (satV x)]) := by
  simp -implicitDefEqProofs only [g19, g19_0, asI_i, asE_nil, Bool.cond_decide]
  unfold satV clampV
  repeat' split
  all_goals first | rfl | omega
theorem nextL_ok (c0 c1 c2 c3 c4 : Int) (hc : Right c0 c1 c2 c3 c4) {s : Q4} (h : s.ok) (v : Int) : g11 (0, [.i v, .i c0, .i c1, .i c2, .i c3, .i c4, .i (s).x1, .i (s).x2, .i (s).y1, .i (s).y2]) = some (0, [.i (outV c0 c1 c2 c3 c4 s v), .i c0, .i c1, .i c2, .i c3, .i c4, .i (nxt c0 c1 c2 c3 c4 s v).x1, .i (nxt c0 c1 c2 c3 c4 s v).x2, .i (nxt c0 c1 c2 c3 c4 s v).y1, .i (nxt c0 c1 c2 c3 c4 s v).y2]) := by
  obtain ⟨w, b⟩ := sum_w c0 c1 c2 c3 c4 hc h v
  have w2 : IntKind.i64.wrap (sumV c0 c1 c2 c3 c4 s v + 8192) = sumV c0 c1 c2 c3 c4 s v + 8192 := wrap64 (by omega) (by omega)
  have hf := tdiv_floor (sumV c0 c1 c2 c3 c4 s v + 8192) (b := 16384) (by omega)
  simp -implicitDefEqProofs only [g11, g11_0, asI_i, asE_nil, hold_ok, altK_0, w, w2, Bool.cond_decide]
  have hd : -5368709120 ≤ (sumV c0 c1 c2 c3 c4 s v + 8192) / 16384 ∧ (sumV c0 c1 c2 c3 c4 s v + 8192) / 16384 ≤ 5368709120 := by omega
  by_cases c : Int.tmod (sumV c0 c1 c2 c3 c4 s v + 8192) 16384 < 0
  · rw [if_pos c] at hf
    rw [if_pos c, wrap64 (x := Int.tdiv (sumV c0 c1 c2 c3 c4 s v + 8192) 16384) (by omega) (by omega), hf, wrap64 (x := (sumV c0 c1 c2 c3 c4 s v + 8192) / 16384) (by omega) (by omega)]
    rfl
  · rw [if_neg c] at hf
    rw [if_neg c, hf, wrap64 (x := (sumV c0 c1 c2 c3 c4 s v + 8192) / 16384) (by omega) (by omega)]
    rfl
def z4 : Q4 := ⟨0, 0, 0, 0⟩
def st (c0 c1 c2 c3 c4 cl : Int) (l : List Int) : Nat → Q4
  | 0 => z4
  | k + 1 => nxt c0 c1 c2 c3 c4 (if (k : Int) = cl then z4 else st c0 c1 c2 c3 c4 cl l k) (l.getD k 0)
theorem z4_ok : z4.ok := by unfold z4 Q4.ok; simp
theorem st_ok (c0 c1 c2 c3 c4 cl : Int) (l : List Int) : ∀ k, (st c0 c1 c2 c3 c4 cl l k).ok
  | 0 => z4_ok
  | k + 1 => by
    unfold st
    split
    · exact nxt_ok c0 c1 c2 c3 c4 z4_ok _
    · exact nxt_ok c0 c1 c2 c3 c4 (st_ok c0 c1 c2 c3 c4 cl l k) _
theorem get5 (c0 c1 c2 c3 c4 : Int) (hc : Right c0 c1 c2 c3 c4) {k : Nat} (hk : k < 5) : okC ([c0, c1, c2, c3, c4].getD k 0) := by
  obtain ⟨k0, k1, k2, k3, k4⟩ := hc
  match k, hk with
  | 0, _ => exact k0
  | 1, _ => exact k1
  | 2, _ => exact k2
  | 3, _ => exact k3
  | 4, _ => exact k4
theorem right_of (c0 c1 c2 c3 c4 : Int) (h : ∀ k, k < 5 → okC ([c0, c1, c2, c3, c4].getD k 0)) : Right c0 c1 c2 c3 c4 := ⟨h 0 (by omega), h 1 (by omega), h 2 (by omega), h 3 (by omega), h 4 (by omega)⟩
theorem right6 (c0 c1 c2 c3 c4 : Int) : g6 (0, [.i c0, .i c1, .i c2, .i c3, .i c4]) = some (0, [.b (decide (Right c0 c1 c2 c3 c4))]) := by
  have hl := loop1_all (f := f6_0) (fun k => [.i c0, .i c1, .i c2, .i c3, .i c4, .i k, .i c0, .i c1, .i c2, .i c3, .i c4]) (fun k => decide (okC ([c0, c1, c2, c3, c4].getD k 0))) 5 (r1 := [.i c0, .i c1, .i c2, .i c3, .i c4]) (r2 := [.i c0, .i c1, .i c2, .i c3, .i c4]) (fun k hk hp => ?_) (fun k hk hp => ?_) ?_ (by omega)
  · have hL : L6_0 (0, [.i c0, .i c1, .i c2, .i c3, .i c4, .i 0, .i c0, .i c1, .i c2, .i c3, .i c4]) = if (List.range 5).all (fun k => decide (okC ([c0, c1, c2, c3, c4].getD k 0))) = true then some (0, [.i c0, .i c1, .i c2, .i c3, .i c4]) else some (1, [.i c0, .i c1, .i c2, .i c3, .i c4]) := hl
    simp -implicitDefEqProofs only [g6, g6_0, asI_i, asE_nil, hL]
    by_cases h : Right c0 c1 c2 c3 c4
    · rw [if_pos (List.all_eq_true.2 fun k hk => decide_eq_true (get5 c0 c1 c2 c3 c4 h (List.mem_range.1 hk))), altK_0, decide_eq_true h]
      rfl
    · rw [if_neg (fun hh => h (right_of c0 c1 c2 c3 c4 fun k hk => of_decide_eq_true (List.all_eq_true.1 hh k (List.mem_range.2 hk)))), altK_1, decide_eq_false h]
      rfl
  · have hx := get_some (l := [c0, c1, c2, c3, c4]) (i := k) (by simpa using hk)
    have hp := of_decide_eq_true hp
    unfold okC at hp
    generalize [c0, c1, c2, c3, c4].getD k 0 = x at *
    have w2 : IntKind.i64.wrap ((k : Int) + 1) = ((k + 1 : Nat) : Int) := wrap_nat (n := k + 1) (by omega)
    simp -implicitDefEqProofs only [f6_0, f6_0_0, asI_i, asE_nil, Bool.cond_decide, if_pos (show (k : Int) < 5 by omega), if_pos (show (0 : Int) ≤ k ∧ (k : Int) < 5 by omega), Int.toNat_natCast, hx, optK_some, if_neg (show ¬ x < -32768 by omega), if_neg (show ¬ 32768 < x by omega), w2]
  · have hx := get_some (l := [c0, c1, c2, c3, c4]) (i := k) (by simpa using hk)
    have hp := of_decide_eq_false hp
    unfold okC at hp
    generalize [c0, c1, c2, c3, c4].getD k 0 = x at *
    simp -implicitDefEqProofs only [f6_0, f6_0_0, asI_i, asE_nil, Bool.cond_decide, if_pos (show (k : Int) < 5 by omega), if_pos (show (0 : Int) ≤ k ∧ (k : Int) < 5 by omega), Int.toNat_natCast, hx, optK_some]
    by_cases c : x < -32768
    · rw [if_pos c]
    · rw [if_neg c, if_pos (by omega)]
  · simp -implicitDefEqProofs only [f6_0, f6_0_0, asI_i, asE_nil, Bool.cond_decide, if_neg (show ¬ ((5 : Nat) : Int) < 5 by omega)]
theorem right7 (c0 c1 c2 c3 c4 : Int) : g7 (0, [.i c0, .i c1, .i c2, .i c3, .i c4]) = some (0, [.b (decide (Right c0 c1 c2 c3 c4))]) := by
  have hl := loop1_all (f := f7_0) (fun k => [.n 5, .i k, .i c0, .i c1, .i c2, .i c3, .i c4, .i c0, .i c1, .i c2, .i c3, .i c4]) (fun k => decide (okC ([c0, c1, c2, c3, c4].getD k 0))) 5 (r1 := [.i c0, .i c1, .i c2, .i c3, .i c4, .i c0, .i c1, .i c2, .i c3, .i c4]) (r2 := [.i c0, .i c1, .i c2, .i c3, .i c4, .i c0, .i c1, .i c2, .i c3, .i c4]) (fun k hk hp => ?_) (fun k hk hp => ?_) ?_ (by omega)
  · have hL : L7_0 (0, [.n 5, .i 0, .i c0, .i c1, .i c2, .i c3, .i c4, .i c0, .i c1, .i c2, .i c3, .i c4]) = if (List.range 5).all (fun k => decide (okC ([c0, c1, c2, c3, c4].getD k 0))) = true then some (0, [.i c0, .i c1, .i c2, .i c3, .i c4, .i c0, .i c1, .i c2, .i c3, .i c4]) else some (1, [.i c0, .i c1, .i c2, .i c3, .i c4, .i c0, .i c1, .i c2, .i c3, .i c4]) := hl
    simp -implicitDefEqProofs only [g7, g7_0, asI_i, asE_nil, hL]
    by_cases h : Right c0 c1 c2 c3 c4
    · rw [if_pos (List.all_eq_true.2 fun k hk => decide_eq_true (get5 c0 c1 c2 c3 c4 h (List.mem_range.1 hk))), altK_0, decide_eq_true h]
      rfl
    · rw [if_neg (fun hh => h (right_of c0 c1 c2 c3 c4 fun k hk => of_decide_eq_true (List.all_eq_true.1 hh k (List.mem_range.2 hk)))), altK_1, decide_eq_false h]
      rfl
  · have hx := get_some (l := [c0, c1, c2, c3, c4]) (i := k) (by simpa using hk)
    have hp := of_decide_eq_true hp
    unfold okC at hp
    generalize [c0, c1, c2, c3, c4].getD k 0 = x at *
    have w2 : IntKind.i64.wrap ((k : Int) + 1) = ((k + 1 : Nat) : Int) := wrap_nat (n := k + 1) (by omega)
    simp -implicitDefEqProofs only [f7_0, f7_0_0, asI_i, asN_n, asE_nil, Bool.cond_decide, if_pos (show (k : Int) < ((5 : Nat) : Int) by omega), if_pos (show (0 : Int) ≤ k ∧ (k : Int) < ((5 : Nat) : Int) by omega), Int.toNat_natCast, hx, optK_some, if_neg (show ¬ x < -32768 by omega), if_neg (show ¬ 32768 < x by omega), w2]
  · have hx := get_some (l := [c0, c1, c2, c3, c4]) (i := k) (by simpa using hk)
    have hp := of_decide_eq_false hp
    unfold okC at hp
    generalize [c0, c1, c2, c3, c4].getD k 0 = x at *
    simp -implicitDefEqProofs only [f7_0, f7_0_0, asI_i, asN_n, asE_nil, Bool.cond_decide, if_pos (show (k : Int) < ((5 : Nat) : Int) by omega), if_pos (show (0 : Int) ≤ k ∧ (k : Int) < ((5 : Nat) : Int) by omega), Int.toNat_natCast, hx, optK_some]
    by_cases c : x < -32768
    · rw [if_pos c]
    · rw [if_neg c, if_pos (by omega)]
  · simp -implicitDefEqProofs only [f7_0, f7_0_0, asI_i, asN_n, asE_nil, Bool.cond_decide, if_neg (show ¬ ((5 : Nat) : Int) < ((5 : Nat) : Int) by omega)]
theorem new_yes (c0 c1 c2 c3 c4 : Int) (hc : Right c0 c1 c2 c3 c4) : g5 (0, [.i c0, .i c1, .i c2, .i c3, .i c4]) = some (0, [.i 0, .i c0, .i c1, .i c2, .i c3, .i c4, .i 0, .i 0, .i 0, .i 0]) := by
  simp -implicitDefEqProofs only [g5, g5_0, asI_i, asB_b, asE_nil, right6, altK_0, decide_eq_true hc, Bool.not_true, cond_false]
theorem new_no (c0 c1 c2 c3 c4 : Int) (hc : ¬ Right c0 c1 c2 c3 c4) : g5 (0, [.i c0, .i c1, .i c2, .i c3, .i c4]) = some (1, [.i 1]) := by
  simp -implicitDefEqProofs only [g5, g5_0, asI_i, asB_b, asE_nil, right6, altK_0, decide_eq_false hc, Bool.not_false, cond_true]
def stS (c0 c1 c2 c3 c4 cl : Int) (l : List Int) (n : Nat) (k : Nat) : Nat × List Leaf :=
  if 0 ≤ cl ∧ cl < k then (3, [.n n, .i cl, .i k, .l l, .i c0, .i c1, .i c2, .i c3, .i c4, .i c0, .i c1, .i c2, .i c3, .i c4, .i (st c0 c1 c2 c3 c4 cl l k).x1, .i (st c0 c1 c2 c3 c4 cl l k).x2, .i (st c0 c1 c2 c3 c4 cl l k).y1, .i (st c0 c1 c2 c3 c4 cl l k).y2, .i c0, .i c1, .i c2, .i c3, .i c4, .i (st c0 c1 c2 c3 c4 cl l cl.toNat).x1, .i (st c0 c1 c2 c3 c4 cl l cl.toNat).x2, .i (st c0 c1 c2 c3 c4 cl l cl.toNat).y1, .i (st c0 c1 c2 c3 c4 cl l cl.toNat).y2, .i c0, .i c1, .i c2, .i c3, .i c4, .i (st c0 c1 c2 c3 c4 cl l k).x1, .i (st c0 c1 c2 c3 c4 cl l k).x2, .i (st c0 c1 c2 c3 c4 cl l k).y1, .i (st c0 c1 c2 c3 c4 cl l k).y2])
  else (0, [.n n, .i cl, .i k, .l l, .i c0, .i c1, .i c2, .i c3, .i c4, .i c0, .i c1, .i c2, .i c3, .i c4, .i (st c0 c1 c2 c3 c4 cl l k).x1, .i (st c0 c1 c2 c3 c4 cl l k).x2, .i (st c0 c1 c2 c3 c4 cl l k).y1, .i (st c0 c1 c2 c3 c4 cl l k).y2, .i c0, .i c1, .i c2, .i c3, .i c4, .i (st c0 c1 c2 c3 c4 cl l k).x1, .i (st c0 c1 c2 c3 c4 cl l k).x2, .i (st c0 c1 c2 c3 c4 cl l k).y1, .i (st c0 c1 c2 c3 c4 cl l k).y2])
theorem loop_ok (c0 c1 c2 c3 c4 : Int) (hc : Right c0 c1 c2 c3 c4) (cl : Int) (l : List Int) (n : Nat) (hn : l.length = n) (hm : n < 9223372036854775808) :
    L3_0 (0, [.n n, .i cl, .i 0, .l l, .i c0, .i c1, .i c2, .i c3, .i c4, .i c0, .i c1, .i c2, .i c3, .i c4, .i 0, .i 0, .i 0, .i 0, .i c0, .i c1, .i c2, .i c3, .i c4, .i 0, .i 0, .i 0, .i 0]) = (if 0 ≤ cl ∧ cl < (min n 100 : Nat) then some (5, [.l l, .i c0, .i c1, .i c2, .i c3, .i c4, .i c0, .i c1, .i c2, .i c3, .i c4, .i (st c0 c1 c2 c3 c4 cl l (min n 100)).x1, .i (st c0 c1 c2 c3 c4 cl l (min n 100)).x2, .i (st c0 c1 c2 c3 c4 cl l (min n 100)).y1, .i (st c0 c1 c2 c3 c4 cl l (min n 100)).y2, .i c0, .i c1, .i c2, .i c3, .i c4, .i (st c0 c1 c2 c3 c4 cl l cl.toNat).x1, .i (st c0 c1 c2 c3 c4 cl l cl.toNat).x2, .i (st c0 c1 c2 c3 c4 cl l cl.toNat).y1, .i (st c0 c1 c2 c3 c4 cl l cl.toNat).y2, .i c0, .i c1, .i c2, .i c3, .i c4, .i (st c0 c1 c2 c3 c4 cl l (min n 100)).x1, .i (st c0 c1 c2 c3 c4 cl l (min n 100)).x2, .i (st c0 c1 c2 c3 c4 cl l (min n 100)).y1, .i (st c0 c1 c2 c3 c4 cl l (min n 100)).y2]) else some (0, [.l l, .i c0, .i c1, .i c2, .i c3, .i c4, .i c0, .i c1, .i c2, .i c3, .i c4, .i (st c0 c1 c2 c3 c4 cl l (min n 100)).x1, .i (st c0 c1 c2 c3 c4 cl l (min n 100)).x2, .i (st c0 c1 c2 c3 c4 cl l (min n 100)).y1, .i (st c0 c1 c2 c3 c4 cl l (min n 100)).y2, .i c0, .i c1, .i c2, .i c3, .i c4, .i (st c0 c1 c2 c3 c4 cl l (min n 100)).x1, .i (st c0 c1 c2 c3 c4 cl l (min n 100)).x2, .i (st c0 c1 c2 c3 c4 cl l (min n 100)).y1, .i (st c0 c1 c2 c3 c4 cl l (min n 100)).y2])) := by
  have hfin : ∀ (j : Nat) (r : List Leaf), f3_0 (stS c0 c1 c2 c3 c4 cl l n (min n 100)) = some (4 + j, r) → L3_0 (0, [.n n, .i cl, .i 0, .l l, .i c0, .i c1, .i c2, .i c3, .i c4, .i c0, .i c1, .i c2, .i c3, .i c4, .i 0, .i 0, .i 0, .i 0, .i c0, .i c1, .i c2, .i c3, .i c4, .i 0, .i 0, .i 0, .i 0]) = some (j, r) := by
    intro j r he
    have h0 : stS c0 c1 c2 c3 c4 cl l n 0 = (0, [.n n, .i cl, .i 0, .l l, .i c0, .i c1, .i c2, .i c3, .i c4, .i c0, .i c1, .i c2, .i c3, .i c4, .i 0, .i 0, .i 0, .i 0, .i c0, .i c1, .i c2, .i c3, .i c4, .i 0, .i 0, .i 0, .i 0]) := by
      unfold stS
      rw [if_neg (by omega)]
      rfl
    have main := loopL_run (m := 4) (f := f3_0) (stS c0 c1 c2 c3 c4 cl l n) (min n 100) (fun k hk => ⟨?_, ?_⟩) he (by omega)
    · rw [h0] at main
      exact main
    · have hx := get_some (l := l) (i := k) (by omega)
      have hs := st_ok c0 c1 c2 c3 c4 cl l k
      have e1 : st c0 c1 c2 c3 c4 cl l (k + 1) = nxt c0 c1 c2 c3 c4 (if (k : Int) = cl then z4 else st c0 c1 c2 c3 c4 cl l k) (l.getD k 0) := rfl
      have k1 : (k : Int) < n := by omega
      have k2 : (k : Int) < 100 := by omega
      have k3 : (0 : Int) ≤ k ∧ (k : Int) < n := by omega
      have w2 : IntKind.i64.wrap ((k : Int) + 1) = ((k + 1 : Nat) : Int) := wrap_nat (n := k + 1) (by omega)
      have hne : ∀ x : Int, (x ≠ x) = False := fun x => by simp
      unfold stS
      by_cases q1 : 0 ≤ cl ∧ cl < k
      · have q2 : ¬ (k : Int) = cl := by omega
        rw [if_pos q1, if_pos (show 0 ≤ cl ∧ cl < ((k + 1 : Nat) : Int) by omega), e1, if_neg q2]
        generalize l.getD k 0 = v at *
        have a1 := next_ok c0 c1 c2 c3 c4 hc hs v
        have a2 := nextL_ok c0 c1 c2 c3 c4 hc hs v
        simp -implicitDefEqProofs only [f3_0, f3_0_3, asN_n, asI_i, asL_l, asE_nil, Bool.cond_decide, if_pos k1, if_pos k2, if_neg q2, if_pos k3, Int.toNat_natCast, hx, optK_some, a1, a2, altK_0, hne, if_false, w2]
      · rw [if_neg q1]
        by_cases q2 : (k : Int) = cl
        · rw [if_pos (show 0 ≤ cl ∧ cl < ((k + 1 : Nat) : Int) by omega), e1, if_pos q2]
          have q3 : cl.toNat = k := by omega
          rw [q3]
          have a1 := next_ok c0 c1 c2 c3 c4 hc z4_ok (l.getD k 0)
          have a2 := nextL_ok c0 c1 c2 c3 c4 hc z4_ok (l.getD k 0)
          have a3 : g9 (0, [.i c0, .i c1, .i c2, .i c3, .i c4, .i (st c0 c1 c2 c3 c4 cl l k).x1, .i (st c0 c1 c2 c3 c4 cl l k).x2, .i (st c0 c1 c2 c3 c4 cl l k).y1, .i (st c0 c1 c2 c3 c4 cl l k).y2]) = some (0, [.i c0, .i c1, .i c2, .i c3, .i c4, .i 0, .i 0, .i 0, .i 0]) := rfl
          have a1 : g10 (0, [.i (l.getD k 0), .i c0, .i c1, .i c2, .i c3, .i c4, .i 0, .i 0, .i 0, .i 0]) = _ := a1
          have a2 : g11 (0, [.i (l.getD k 0), .i c0, .i c1, .i c2, .i c3, .i c4, .i 0, .i 0, .i 0, .i 0]) = _ := a2
          generalize l.getD k 0 = v at *
          simp -implicitDefEqProofs only [f3_0, f3_0_0, asN_n, asI_i, asL_l, asE_nil, Bool.cond_decide, if_pos k1, if_pos k2, if_pos q2, if_pos k3, Int.toNat_natCast, hx, optK_some, a3, a1, a2, altK_0, hne, if_false, w2]
        · rw [if_neg (show ¬ (0 ≤ cl ∧ cl < ((k + 1 : Nat) : Int)) by omega), e1, if_neg q2]
          generalize l.getD k 0 = v at *
          have a1 := next_ok c0 c1 c2 c3 c4 hc hs v
          have a2 := nextL_ok c0 c1 c2 c3 c4 hc hs v
          simp -implicitDefEqProofs only [f3_0, f3_0_0, asN_n, asI_i, asL_l, asE_nil, Bool.cond_decide, if_pos k1, if_pos k2, if_neg q2, if_pos k3, Int.toNat_natCast, hx, optK_some, a1, a2, altK_0, hne, if_false, w2]
    · unfold stS
      split
      · show 3 < 4; omega
      · show 0 < 4; omega
  unfold stS at hfin
  by_cases q1 : 0 ≤ cl ∧ cl < ((min n 100 : Nat) : Int)
  · rw [if_pos q1]
    rw [if_pos q1] at hfin
    refine hfin 5 _ ?_
    simp -implicitDefEqProofs only [f3_0, f3_0_3, asN_n, asI_i, asL_l, asE_nil, Bool.cond_decide]
    by_cases c : ((min n 100 : Nat) : Int) < n
    · rw [if_pos c, if_neg (by omega)]
    · rw [if_neg c]
  · rw [if_neg q1]
    rw [if_neg q1] at hfin
    refine hfin 0 _ ?_
    simp -implicitDefEqProofs only [f3_0, f3_0_0, asN_n, asI_i, asL_l, asE_nil, Bool.cond_decide]
    by_cases c : ((min n 100 : Nat) : Int) < n
    · rw [if_pos c, if_neg (by omega)]
    · rw [if_neg c]
theorem altK_5 {α : Type} (r : List Leaf) (k k1 k2 k3 k4 k5 : List Leaf → α) (ks : List (List Leaf → α)) (z : α) : altK (some (5, r)) (k :: k1 :: k2 :: k3 :: k4 :: k5 :: ks) z = k5 r := rfl
theorem plays (c0 c1 c2 c3 c4 cl : Int) (l : List Int) (n : Nat) (hn : l.length = n) (hm : n < 9223372036854775808) : g3 (0, [.i c0, .i c1, .i c2, .i c3, .i c4, .n n, .i cl, .l l]) = some (0, [.b true, .l l]) := by
  have hne : ∀ x : Int, (x ≠ x) = False := fun x => by simp
  have hnb : ∀ x : Bool, (x ≠ x) = False := fun x => by simp
  by_cases hc : Right c0 c1 c2 c3 c4
  · have hl := loop_ok c0 c1 c2 c3 c4 hc cl l n hn hm
    simp -implicitDefEqProofs only [g3, g3_0, asN_n, asI_i, asL_l, asB_b, asE_nil, Bool.cond_decide, new_yes c0 c1 c2 c3 c4 hc, right6, right7, altK_0, hnb, hne, if_false, decide_eq_true hc, Bool.not_true, cond_false, hl]
    by_cases q : 0 ≤ cl ∧ cl < ((min n 100 : Nat) : Int)
    · rw [if_pos q, altK_5]
      simp -implicitDefEqProofs only [asI_i, asL_l, asB_b, asE_nil, awakeL_ok, altK_0]
    · rw [if_neg q, altK_0]
      simp -implicitDefEqProofs only [asI_i, asL_l, asB_b, asE_nil, awakeL_ok, altK_0]
  · simp -implicitDefEqProofs only [g3, g3_0, asN_n, asI_i, asL_l, asB_b, asE_nil, Bool.cond_decide, new_no c0 c1 c2 c3 c4 hc, right6, right7, altK_0, altK_1, hnb, if_false, decide_eq_false hc, Bool.not_false, cond_true, if_true, awakeL_ok]
theorem loop_n (c0 c1 c2 c3 c4 cl : Int) : L3_0 (1, [.i cl, .i 0, .i c0, .i c1, .i c2, .i c3, .i c4, .i c0, .i c1, .i c2, .i c3, .i c4, .i 0, .i 0, .i 0, .i 0, .i c0, .i c1, .i c2, .i c3, .i c4, .i 0, .i 0, .i 0, .i 0]) = some (3, [.i c0, .i c1, .i c2, .i c3, .i c4, .i c0, .i c1, .i c2, .i c3, .i c4, .i 0, .i 0, .i 0, .i 0, .i c0, .i c1, .i c2, .i c3, .i c4, .i 0, .i 0, .i 0, .i 0]) := loopL_last (m := 4) (f := f3_0) (j := 3) (by
  simp -implicitDefEqProofs only [f3_0, f3_0_1, asI_i, asE_nil, Bool.cond_decide, if_neg (Int.lt_irrefl _)])
theorem loop_d (c0 c1 c2 c3 c4 cl : Int) : L3_0 (2, [.n 0, .i cl, .i 0, .i c0, .i c1, .i c2, .i c3, .i c4, .i c0, .i c1, .i c2, .i c3, .i c4, .i 0, .i 0, .i 0, .i 0, .i c0, .i c1, .i c2, .i c3, .i c4, .i 0, .i 0, .i 0, .i 0]) = some (4, [.i c0, .i c1, .i c2, .i c3, .i c4, .i c0, .i c1, .i c2, .i c3, .i c4, .i 0, .i 0, .i 0, .i 0, .i c0, .i c1, .i c2, .i c3, .i c4, .i 0, .i 0, .i 0, .i 0]) := loopL_last (m := 4) (f := f3_0) (j := 4) (by
  simp -implicitDefEqProofs only [f3_0, f3_0_2, asN_n, asI_i, asE_nil, Bool.cond_decide, if_neg (show ¬ (0 : Int) < ((0 : Nat) : Int) by omega)])
theorem altK_4' {α : Type} (r : List Leaf) (k k1 k2 k3 k4 : List Leaf → α) (ks : List (List Leaf → α)) (z : α) : altK (some (4, r)) (k :: k1 :: k2 :: k3 :: k4 :: ks) z = k4 r := rfl
theorem plays_n (c0 c1 c2 c3 c4 cl : Int) : g3 (1, [.i c0, .i c1, .i c2, .i c3, .i c4, .i cl]) = some (1, [.b true]) := by
  have hne : ∀ x : Int, (x ≠ x) = False := fun x => by simp
  have hnb : ∀ x : Bool, (x ≠ x) = False := fun x => by simp
  by_cases hc : Right c0 c1 c2 c3 c4
  · simp -implicitDefEqProofs only [g3, g3_1, asN_n, asI_i, asL_l, asB_b, asE_nil, Bool.cond_decide, new_yes c0 c1 c2 c3 c4 hc, right6, right7, altK_0, hnb, hne, if_false, decide_eq_true hc, Bool.not_true, cond_false, loop_n, altK_3, awakeL_ok]
  · simp -implicitDefEqProofs only [g3, g3_1, asN_n, asI_i, asL_l, asB_b, asE_nil, Bool.cond_decide, new_no c0 c1 c2 c3 c4 hc, right6, right7, altK_0, altK_1, hnb, if_false, decide_eq_false hc, Bool.not_false, cond_true, if_true, awakeL_ok]
theorem plays_d (c0 c1 c2 c3 c4 cl : Int) : g3 (2, [.i c0, .i c1, .i c2, .i c3, .i c4, .i cl]) = some (2, [.b true]) := by
  have hne : ∀ x : Int, (x ≠ x) = False := fun x => by simp
  have hnb : ∀ x : Bool, (x ≠ x) = False := fun x => by simp
  by_cases hc : Right c0 c1 c2 c3 c4
  · simp -implicitDefEqProofs only [g3, g3_2, asN_n, asI_i, asL_l, asB_b, asE_nil, Bool.cond_decide, new_yes c0 c1 c2 c3 c4 hc, right6, right7, altK_0, hnb, hne, if_false, decide_eq_true hc, Bool.not_true, cond_false, loop_d, altK_4', awakeL_ok]
  · simp -implicitDefEqProofs only [g3, g3_2, asN_n, asI_i, asL_l, asB_b, asE_nil, Bool.cond_decide, new_no c0 c1 c2 c3 c4 hc, right6, right7, altK_0, altK_1, hnb, if_false, decide_eq_false hc, Bool.not_false, cond_true, if_true, awakeL_ok]
theorem ev_l (c : List Int) (h : c.length = 5) (cl : Int) (l : List Int) (n : Nat) (hl : l.length = n * 1) (hm : n ≤ maxLen) : ∃ d, evF tab d 3 [.ints .i64 c, .slice 0 0 n 1, .int .i64 cl] [⟨false, .ints .i64 l⟩] = some (.bool true, [⟨false, .ints .i64 l⟩], []) := by
  match c, h with
  | [c0, c1, c2, c3, c4], _ => exact ⟨_, (ok3 0).ret (i := 0) (ls := [.i c0, .i c1, .i c2, .i c3, .i c4, .n n, .i cl, .l l]) (j := 0) (r := [.b true, .l l]) (plays c0 c1 c2 c3 c4 cl l n (by omega) (by have : maxLen = 9223372036854775807 := rfl; omega)) rfl rfl rfl rfl⟩
theorem ev_n (c : List Int) (h : c.length = 5) (cl : Int) : ∃ d, evF tab d 3 [.ints .i64 c, .nils, .int .i64 cl] [] = some (.bool true, [], []) := by
  match c, h with
  | [c0, c1, c2, c3, c4], _ => exact ⟨_, (ok3 0).ret (i := 1) (ls := [.i c0, .i c1, .i c2, .i c3, .i c4, .i cl]) (j := 1) (r := [.b true]) (plays_n c0 c1 c2 c3 c4 cl) rfl rfl rfl rfl⟩
theorem ev_d (c : List Int) (h : c.length = 5) (cl : Int) : ∃ d, evF tab d 3 [.ints .i64 c, .slice 0 0 0 1, .int .i64 cl] [⟨true, .unk⟩] = some (.bool true, [⟨true, .unk⟩], []) := by
  match c, h with
  | [c0, c1, c2, c3, c4], _ => exact ⟨_, (ok3 0).ret (i := 2) (ls := [.i c0, .i c1, .i c2, .i c3, .i c4, .i cl]) (j := 2) (r := [.b true]) (plays_d c0 c1 c2 c3 c4 cl) rfl rfl rfl rfl⟩
end Go.Proofs.Ytgjmlenokdggoaa
