/-
  The law of what filters one behind the other tell: one filter, by its list of nine numbers. Conditions: none.
-/
import Derived.Test.YtgjmlenokdggoaaNumc
namespace Go.Proofs.Ytgjmlenokdggoaa
open Go Go.Sx P
set_option maxRecDepth 100000
set_option linter.unusedVariables false
attribute [local simp] asI_i asB_b asL_l asN_n asS_s asE_nil altK_none altK_0 altK_1 altK_2 altK_3 optK_some optK_none Bool.cond_decide Bool.cond_not Int.toNat_natCast
set_option linter.unusedSimpArgs false
/-- A loop's way from head to head, to its end. -/
inductive Path (m : Nat) (f : Nat × List Leaf → Option (Nat × List Leaf)) : Nat × List Leaf → Nat × List Leaf → Nat → Prop
  | fin {s : Nat × List Leaf} {j : Nat} {r : List Leaf} : f s = some (m + j, r) → Path m f s (j, r) 0
  | step {s s' e : Nat × List Leaf} {n : Nat} : f s = some s' → Nat.ble (s'.1 + 1) m = true → Path m f s' e n → Path m f s e (n + 1)
theorem Path.iter {m : Nat} {f : Nat × List Leaf → Option (Nat × List Leaf)} {s e : Nat × List Leaf} {n : Nat} (h : Path m f s e n) : ∀ q, n < q → iterL m f q s = some e := by
  induction h with
  | fin h =>
    intro q hq
    obtain ⟨q, rfl⟩ : ∃ k, q = k + 1 := ⟨q - 1, by omega⟩
    simp only [iterL, h]
    rw [if_neg (by omega), Nat.add_sub_cancel_left]
  | step h1 h2 _ ih =>
    intro q hq
    obtain ⟨q, rfl⟩ : ∃ k, q = k + 1 := ⟨q - 1, by omega⟩
    rw [loop_step h1 (Nat.le_of_ble_eq_true h2)]
    exact ih q (by omega)
theorem Path.run {m : Nat} {f : Nat × List Leaf → Option (Nat × List Leaf)} {s e : Nat × List Leaf} {n : Nat} (h : Path m f s e n) (hn : Nat.ble n 1000 = true) : loopL m f s = some e := by
  have := Nat.le_of_ble_eq_true hn
  exact h.iter loopFuel (fuel_pos (by omega))

structure Q4 where
  x1 : Int
  x2 : Int
  y1 : Int
  y2 : Int
structure C5 where
  b0 : Int
  b1 : Int
  b2 : Int
  a1 : Int
  a2 : Int
/-- A filter's numbers. -/
def F9 (c : C5) (s : Q4) : List Int := [c.b0, c.b1, c.b2, c.a1, c.a2, s.x1, s.x2, s.y1, s.y2]
def L5 (c : C5) : List Int := [c.b0, c.b1, c.b2, c.a1, c.a2]
def Q4.ok (s : Q4) : Prop := (-32768 ≤ s.x1 ∧ s.x1 ≤ 32767) ∧ (-32768 ≤ s.x2 ∧ s.x2 ≤ 32767) ∧ (-32768 ≤ s.y1 ∧ s.y1 ≤ 32767) ∧ (-32768 ≤ s.y2 ∧ s.y2 ≤ 32767)
def okC (x : Int) : Prop := -32768 ≤ x ∧ x ≤ 32768
instance (x : Int) : Decidable (okC x) := by unfold okC; infer_instance
def Right (c : C5) : Prop := okC c.b0 ∧ okC c.b1 ∧ okC c.b2 ∧ okC c.a1 ∧ okC c.a2
instance (c : C5) : Decidable (Right c) := by unfold Right; infer_instance
def sumV (c : C5) (s : Q4) (v : Int) : Int := c.b0 * satV v + c.b1 * s.x1 + c.b2 * s.x2 + c.a1 * s.y1 + c.a2 * s.y2
def outV (c : C5) (s : Q4) (v : Int) : Int := satV ((sumV c s v + 8192) / 16384)
def nxt (c : C5) (s : Q4) (v : Int) : Q4 := ⟨satV v, s.x1, outV c s v, s.y1⟩
theorem nxt_ok (c : C5) {s : Q4} (h : s.ok) (v : Int) : (nxt c s v).ok := by
  have h1 := satV_in v
  have h2 := satV_in ((sumV c s v + 8192) / 16384)
  exact ⟨h1, h.1, h2, h.2.2.1⟩
theorem pb {a b : Int} (ha : okC a) (hb : -32768 ≤ b ∧ b ≤ 32767) : -1073741824 ≤ a * b ∧ a * b ≤ 1073741824 := by
  unfold okC at ha
  rcases Int.le_total 0 a with h | h
  · have u1 := Int.mul_le_mul_of_nonneg_left hb.2 h
    have u2 := Int.mul_le_mul_of_nonneg_left hb.1 h
    omega
  · have u1 := Int.mul_le_mul_of_nonpos_left h hb.2
    have u2 := Int.mul_le_mul_of_nonpos_left h hb.1
    omega
theorem sum_w (c : C5) (hc : Right c) {s : Q4} (h : s.ok) (v : Int) :
    IntKind.i64.wrap (IntKind.i64.wrap (IntKind.i64.wrap (IntKind.i64.wrap (IntKind.i64.wrap (c.b0 * satV v) + IntKind.i64.wrap (c.b1 * s.x1)) + IntKind.i64.wrap (c.b2 * s.x2)) + IntKind.i64.wrap (c.a1 * s.y1)) + IntKind.i64.wrap (c.a2 * s.y2)) = sumV c s v ∧ (-5368709120 ≤ sumV c s v ∧ sumV c s v ≤ 5368709120) := by
  obtain ⟨k0, k1, k2, k3, k4⟩ := hc
  have p0 := pb k0 (satV_in v)
  have p1 := pb k1 h.1
  have p2 := pb k2 h.2.1
  have p3 := pb k3 h.2.2.1
  have p4 := pb k4 h.2.2.2
  unfold sumV
  generalize c.b0 * satV v = e0 at *
  generalize c.b1 * s.x1 = e1 at *
  generalize c.b2 * s.x2 = e2 at *
  generalize c.a1 * s.y1 = e3 at *
  generalize c.a2 * s.y2 = e4 at *
  rw [wrap64 (x := e0) (by omega) (by omega), wrap64 (x := e1) (by omega) (by omega), wrap64 (x := e2) (by omega) (by omega), wrap64 (x := e3) (by omega) (by omega), wrap64 (x := e4) (by omega) (by omega),
    wrap64 (x := e0 + e1) (by omega) (by omega), wrap64 (x := e0 + e1 + e2) (by omega) (by omega), wrap64 (x := e0 + e1 + e2 + e3) (by omega) (by omega), wrap64 (x := e0 + e1 + e2 + e3 + e4) (by omega) (by omega)]
  exact ⟨rfl, by omega⟩
theorem take5 (a b c d e : Int) (l : List Int) : List.take 5 (a :: b :: c :: d :: e :: l) = [a, b, c, d, e] := rfl
theorem next_ok (c : C5) (hc : Right c) {s : Q4} (h : s.ok) (v : Int) : g10 (0, [.i v, .l (F9 c s)]) = some (0, [.i (outV c s v), .l (F9 c (nxt c s v))]) := by
  obtain ⟨w, b⟩ := sum_w c hc h v
  have hr := round14 (sumV c s v) (by unfold In64; omega)
  have hs : clampV v (-32768) 32767 = satV v := rfl
  obtain ⟨c0, c1, c2, c3, c4⟩ := c
  obtain ⟨x1, x2, y1, y2⟩ := s
  have ho : satV ((sumV ⟨c0, c1, c2, c3, c4⟩ ⟨x1, x2, y1, y2⟩ v + 8192) / 16384) = outV ⟨c0, c1, c2, c3, c4⟩ ⟨x1, x2, y1, y2⟩ v := rfl
  have hF : ∀ o, [c0, c1, c2, c3, c4, satV v, x1, o, y1] = F9 ⟨c0, c1, c2, c3, c4⟩ ⟨satV v, x1, o, y1⟩ := fun _ => rfl
  have hN : nxt ⟨c0, c1, c2, c3, c4⟩ ⟨x1, x2, y1, y2⟩ v = ⟨satV v, x1, outV ⟨c0, c1, c2, c3, c4⟩ ⟨x1, x2, y1, y2⟩ v, y1⟩ := rfl
  rw [hN, ← hF]
  simp -implicitDefEqProofs only [g10, g10_0, asI_i, asL_l, asE_nil, clamp_ok, hs, altK_0, F9, take5, List.length_cons, List.length_nil, Nat.zero_add, Nat.reduceAdd, List.drop_succ_cons, List.drop_zero, List.append_nil, List.drop_nil, List.getElem?_cons_succ, List.getElem?_cons_zero, optK_some, List.set_cons_succ, List.set_cons_zero, if_true, Nat.reduceLeDiff, Nat.reduceLT]
  generalize outV ⟨c0, c1, c2, c3, c4⟩ ⟨x1, x2, y1, y2⟩ v = o at *
  generalize sumV ⟨c0, c1, c2, c3, c4⟩ ⟨x1, x2, y1, y2⟩ v = z at *
  simp only at w
  rw [w]
  simp -implicitDefEqProofs only [hr, altK_0, asI_i, asE_nil, sat_ok, ho]
  done
theorem hold_ok (x : Int) : g19 (0, [.i x]) = some (0, [.i (satV x)]) := by
  simp -implicitDefEqProofs only [g19, g19_0, asI_i, asE_nil, Bool.cond_decide]
  unfold satV clampV
  repeat' split
  all_goals first | rfl | omega
theorem nextL_ok (c : C5) (hc : Right c) {s : Q4} (h : s.ok) (v : Int) : g11 (0, [.i v, .l (F9 c s)]) = some (0, [.i (outV c s v), .l (F9 c (nxt c s v))]) := by
  obtain ⟨w, b⟩ := sum_w c hc h v
  obtain ⟨c0, c1, c2, c3, c4⟩ := c
  obtain ⟨x1, x2, y1, y2⟩ := s
  have ho : satV ((sumV ⟨c0, c1, c2, c3, c4⟩ ⟨x1, x2, y1, y2⟩ v + 8192) / 16384) = outV ⟨c0, c1, c2, c3, c4⟩ ⟨x1, x2, y1, y2⟩ v := rfl
  have hF : ∀ o, [c0, c1, c2, c3, c4, satV v, x1, o, y1] = F9 ⟨c0, c1, c2, c3, c4⟩ ⟨satV v, x1, o, y1⟩ := fun _ => rfl
  have hN : nxt ⟨c0, c1, c2, c3, c4⟩ ⟨x1, x2, y1, y2⟩ v = ⟨satV v, x1, outV ⟨c0, c1, c2, c3, c4⟩ ⟨x1, x2, y1, y2⟩ v, y1⟩ := rfl
  rw [hN, ← hF]
  simp -implicitDefEqProofs only [g11, g11_0, asI_i, asL_l, asE_nil, hold_ok, altK_0, F9, List.length_cons, List.length_nil, Nat.zero_add, Nat.reduceAdd, List.getElem?_cons_succ, List.getElem?_cons_zero, optK_some, List.set_cons_succ, List.set_cons_zero, if_true, Nat.reduceLeDiff, Nat.reduceLT, Bool.cond_decide]
  generalize outV ⟨c0, c1, c2, c3, c4⟩ ⟨x1, x2, y1, y2⟩ v = o at *
  generalize sumV ⟨c0, c1, c2, c3, c4⟩ ⟨x1, x2, y1, y2⟩ v = z at *
  simp only at w
  have w2 : IntKind.i64.wrap (z + 8192) = z + 8192 := wrap64 (by omega) (by omega)
  have hf := tdiv_floor (z + 8192) (b := 16384) (by omega)
  have hd : -5368709120 ≤ (z + 8192) / 16384 ∧ (z + 8192) / 16384 ≤ 5368709120 := by omega
  rw [w, w2]
  by_cases c : Int.tmod (z + 8192) 16384 < 0
  · rw [if_pos c] at hf
    rw [if_pos c, wrap64 (x := Int.tdiv (z + 8192) 16384) (by omega) (by omega), hf, wrap64 (x := (z + 8192) / 16384) (by omega) (by omega), ho]
  · rw [if_neg c] at hf
    rw [if_neg c, hf, wrap64 (x := (z + 8192) / 16384) (by omega) (by omega), ho]
def z4 : Q4 := ⟨0, 0, 0, 0⟩
theorem z4_ok : z4.ok := by unfold z4 Q4.ok; simp
/-! ### Filters one behind the other -/
def vin (c : Nat → C5) (s : Nat → Q4) (v : Int) : Nat → Int
  | 0 => v
  | i + 1 => outV (c i) (s i) (vin c s v i)
def stt (c : Nat → C5) (l : List Int) : Nat → Nat → Q4
  | 0 => fun _ => z4
  | k + 1 => fun i => nxt (c i) (stt c l k i) (vin c (stt c l k) (l.getD k 0) i)
theorem stt_ok (c : Nat → C5) (l : List Int) : ∀ k i, (stt c l k i).ok
  | 0, _ => z4_ok
  | k + 1, i => nxt_ok (c i) (stt_ok c l k i) _
/-! ### May numbers be? -/
theorem get5 (c : C5) (hc : Right c) {k : Nat} (hk : k < 5) : okC ((L5 c).getD k 0) := by
  obtain ⟨k0, k1, k2, k3, k4⟩ := hc
  match k, hk with
  | 0, _ => exact k0
  | 1, _ => exact k1
  | 2, _ => exact k2
  | 3, _ => exact k3
  | 4, _ => exact k4
theorem right_of (c : C5) (h : ∀ k, k < 5 → okC ((L5 c).getD k 0)) : Right c := ⟨h 0 (by omega), h 1 (by omega), h 2 (by omega), h 3 (by omega), h 4 (by omega)⟩
theorem all5 (c : C5) : (List.range 5).all (fun k => decide (okC ((L5 c).getD k 0))) = decide (Right c) := by
  by_cases h : Right c
  · rw [decide_eq_true h]
    exact List.all_eq_true.2 fun k hk => decide_eq_true (get5 c h (List.mem_range.1 hk))
  · rw [decide_eq_false h]
    refine Bool.eq_false_iff.2 fun hh => h (right_of c fun k hk => of_decide_eq_true (List.all_eq_true.1 hh k (List.mem_range.2 hk)))
theorem five_ (c : C5) : (L5 c)[0]? = some c.b0 ∧ (L5 c)[1]? = some c.b1 ∧ (L5 c)[2]? = some c.b2 ∧ (L5 c)[3]? = some c.a1 ∧ (L5 c)[4]? = some c.a2 := ⟨rfl, rfl, rfl, rfl, rfl⟩
theorem right6 (c : C5) (A : List Int) (hA : A = L5 c) : g6 (0, [.l A]) = some (0, [.b (decide (Right c))]) := by
  subst hA
  have hl := loop1_all (f := f6_0) (fun k => [.i c.b0, .i c.b1, .i c.b2, .i c.a1, .i c.a2, .i k, .l (L5 c)]) (fun k => decide (okC ((L5 c).getD k 0))) 5 (r1 := [.l (L5 c)]) (r2 := [.l (L5 c)]) (fun k hk hp => ?_) (fun k hk hp => ?_) ?_ (by omega)
  · have hL : L6_0 (0, [.i c.b0, .i c.b1, .i c.b2, .i c.a1, .i c.a2, .i 0, .l (L5 c)]) = if (List.range 5).all (fun k => decide (okC ((L5 c).getD k 0))) = true then some (0, [.l (L5 c)]) else some (1, [.l (L5 c)]) := hl
    obtain ⟨e0, e1, e2, e3, e4⟩ := five_ c
    simp -implicitDefEqProofs only [g6, g6_0, asI_i, asL_l, asE_nil, e0, e1, e2, e3, e4, optK_some, hL, all5]
    by_cases h : Right c
    · rw [decide_eq_true h, if_pos rfl, altK_0]
      rfl
    · rw [decide_eq_false h, if_neg (by simp), altK_1]
      rfl
  · have hx := get_some (l := L5 c) (i := k) (show k < 5 from hk)
    have hp := of_decide_eq_true hp
    unfold okC at hp
    have w2 : IntKind.i64.wrap ((k : Int) + 1) = ((k + 1 : Nat) : Int) := wrap_nat (n := k + 1) (by omega)
    have e : [c.b0, c.b1, c.b2, c.a1, c.a2] = L5 c := rfl
    generalize (L5 c).getD k 0 = x at *
    simp -implicitDefEqProofs only [f6_0, f6_0_0, asI_i, asL_l, asE_nil, Bool.cond_decide, if_pos (show (k : Int) < 5 by omega), if_pos (show (0 : Int) ≤ k ∧ (k : Int) < 5 by omega), Int.toNat_natCast, e, hx, optK_some, if_neg (show ¬ x < -32768 by omega), if_neg (show ¬ 32768 < x by omega), w2]
  · have hx := get_some (l := L5 c) (i := k) (show k < 5 from hk)
    have hp := of_decide_eq_false hp
    unfold okC at hp
    have e : [c.b0, c.b1, c.b2, c.a1, c.a2] = L5 c := rfl
    generalize (L5 c).getD k 0 = x at *
    simp -implicitDefEqProofs only [f6_0, f6_0_0, asI_i, asL_l, asE_nil, Bool.cond_decide, if_pos (show (k : Int) < 5 by omega), if_pos (show (0 : Int) ≤ k ∧ (k : Int) < 5 by omega), Int.toNat_natCast, e, hx, optK_some]
    by_cases c : x < -32768
    · rw [if_pos c]
    · rw [if_neg c, if_pos (by omega)]
  · simp -implicitDefEqProofs only [f6_0, f6_0_0, asI_i, asL_l, asE_nil, Bool.cond_decide, if_neg (show ¬ ((5 : Nat) : Int) < 5 by omega)]
theorem right7 (c : C5) (A : List Int) (hA : A = L5 c) : g7 (0, [.l A]) = some (0, [.b (decide (Right c))]) := by
  subst hA
  have hl := loop1_all (f := f7_0) (fun k => [.n 5, .i k, .l (L5 c), .i c.b0, .i c.b1, .i c.b2, .i c.a1, .i c.a2]) (fun k => decide (okC ((L5 c).getD k 0))) 5 (r1 := [.l (L5 c), .i c.b0, .i c.b1, .i c.b2, .i c.a1, .i c.a2]) (r2 := [.l (L5 c), .i c.b0, .i c.b1, .i c.b2, .i c.a1, .i c.a2]) (fun k hk hp => ?_) (fun k hk hp => ?_) ?_ (by omega)
  · have hL : L7_0 (0, [.n 5, .i 0, .l (L5 c), .i c.b0, .i c.b1, .i c.b2, .i c.a1, .i c.a2]) = if (List.range 5).all (fun k => decide (okC ((L5 c).getD k 0))) = true then some (0, [.l (L5 c), .i c.b0, .i c.b1, .i c.b2, .i c.a1, .i c.a2]) else some (1, [.l (L5 c), .i c.b0, .i c.b1, .i c.b2, .i c.a1, .i c.a2]) := hl
    obtain ⟨e0, e1, e2, e3, e4⟩ := five_ c
    simp -implicitDefEqProofs only [g7, g7_0, asI_i, asL_l, asE_nil, e0, e1, e2, e3, e4, optK_some, hL, all5]
    by_cases h : Right c
    · rw [decide_eq_true h, if_pos rfl, altK_0]
      rfl
    · rw [decide_eq_false h, if_neg (by simp), altK_1]
      rfl
  · have hx := get_some (l := L5 c) (i := k) (show k < 5 from hk)
    have hp := of_decide_eq_true hp
    unfold okC at hp
    have w2 : IntKind.i64.wrap ((k : Int) + 1) = ((k + 1 : Nat) : Int) := wrap_nat (n := k + 1) (by omega)
    have e : [c.b0, c.b1, c.b2, c.a1, c.a2] = L5 c := rfl
    generalize (L5 c).getD k 0 = x at *
    simp -implicitDefEqProofs only [f7_0, f7_0_0, asI_i, asN_n, asL_l, asE_nil, Bool.cond_decide, if_pos (show (k : Int) < ((5 : Nat) : Int) by omega), if_pos (show (0 : Int) ≤ k ∧ (k : Int) < ((5 : Nat) : Int) by omega), Int.toNat_natCast, e, hx, optK_some, if_neg (show ¬ x < -32768 by omega), if_neg (show ¬ 32768 < x by omega), w2]
  · have hx := get_some (l := L5 c) (i := k) (show k < 5 from hk)
    have hp := of_decide_eq_false hp
    unfold okC at hp
    have e : [c.b0, c.b1, c.b2, c.a1, c.a2] = L5 c := rfl
    generalize (L5 c).getD k 0 = x at *
    simp -implicitDefEqProofs only [f7_0, f7_0_0, asI_i, asN_n, asL_l, asE_nil, Bool.cond_decide, if_pos (show (k : Int) < ((5 : Nat) : Int) by omega), if_pos (show (0 : Int) ≤ k ∧ (k : Int) < ((5 : Nat) : Int) by omega), Int.toNat_natCast, e, hx, optK_some]
    by_cases c : x < -32768
    · rw [if_pos c]
    · rw [if_neg c, if_pos (by omega)]
  · simp -implicitDefEqProofs only [f7_0, f7_0_0, asI_i, asN_n, asL_l, asE_nil, Bool.cond_decide, if_neg (show ¬ ((5 : Nat) : Int) < ((5 : Nat) : Int) by omega)]
theorem new_yes (c : C5) (A : List Int) (hA : A = L5 c) (hc : Right c) : g5 (0, [.l A]) = some (0, [.l (F9 c z4)]) := by
  have h6 := right6 c (L5 c) rfl
  have hF : [c.b0, c.b1, c.b2, c.a1, c.a2, 0, 0, 0, 0] = F9 c z4 := rfl
  rw [← hF, hA]
  simp -implicitDefEqProofs only [L5] at h6 ⊢
  simp -implicitDefEqProofs only [g5, g5_0, asI_i, asL_l, asB_b, asE_nil, take5, List.length_cons, List.length_nil, Nat.zero_add, Nat.reduceAdd, List.drop_succ_cons, List.drop_zero, if_true, Nat.reduceLeDiff, h6, altK_0, decide_eq_true hc, Bool.not_true, cond_false, List.cons_append, List.nil_append]
theorem new_no (c : C5) (A : List Int) (hA : A = L5 c) (hc : ¬ Right c) : g5 (0, [.l A]) = some (1, []) := by
  have h6 := right6 c (L5 c) rfl
  rw [hA]
  simp -implicitDefEqProofs only [L5] at h6 ⊢
  simp -implicitDefEqProofs only [g5, g5_0, asI_i, asL_l, asB_b, asE_nil, take5, List.length_cons, List.length_nil, Nat.zero_add, Nat.reduceAdd, if_true, Nat.reduceLeDiff, h6, altK_0, decide_eq_false hc, Bool.not_false, cond_true]
/-! ### A row of coefficients -/
def rowL : List C5 → List Int
  | [] => []
  | c :: q => c.b0 :: c.b1 :: c.b2 :: c.a1 :: c.a2 :: rowL q
theorem row_of : ∀ (j : Nat) (l : List Int), l.length = j * 5 → ∃ q : List C5, q.length = j ∧ l = rowL q
  | 0, l, h => ⟨[], rfl, List.length_eq_zero_iff.1 (by omega)⟩
  | j + 1, l, h => by
    match l, h with
    | a :: b :: c :: d :: e :: l, h =>
      obtain ⟨q, h1, h2⟩ := row_of j l (by simp at h; omega)
      exact ⟨⟨a, b, c, d, e⟩ :: q, by rw [List.length_cons, h1], by rw [h2]; rfl⟩
    | [], h => simp at h
    | [_], h => simp at h; omega
    | [_, _], h => simp at h; omega
    | [_, _, _], h => simp at h; omega
    | [_, _, _, _], h => simp at h; omega
def c50 : C5 := ⟨0, 0, 0, 0, 0⟩
theorem piece_of : ∀ (q : List C5) (i : Nat), i < q.length → List.take 5 (List.drop (5 * i) (rowL q)) = L5 (q.getD i c50)
  | [], i, h => absurd h (Nat.not_lt_zero i)
  | c :: q, 0, _ => rfl
  | c :: q, i + 1, h => by
    have h1 := piece_of q i (by simpa using h)
    rw [show 5 * (i + 1) = 5 * i + 5 by omega]
    show List.take 5 (List.drop (5 * i + 5) (c.b0 :: c.b1 :: c.b2 :: c.a1 :: c.a2 :: rowL q)) = _
    rw [List.drop_succ_cons, List.drop_succ_cons, List.drop_succ_cons, List.drop_succ_cons, List.drop_succ_cons, h1]
    simp
theorem rowL_len : ∀ q : List C5, (rowL q).length = q.length * 5
  | [] => rfl
  | c :: q => by
    show (c.b0 :: c.b1 :: c.b2 :: c.a1 :: c.a2 :: rowL q).length = _
    simp only [List.length_cons, rowL_len q]
    omega
end Go.Proofs.Ytgjmlenokdggoaa
