/-
  What filters and echoes tell, the program's and the document's. Conditions: none.
-/
import Derived.Test.YtlbfafbhflblcaaNumc
namespace Go.Proofs.Ytlbfafbhflblcaa
open Go Go.Sx P
set_option maxRecDepth 100000
set_option linter.unusedVariables false
attribute [local simp] asI_i Zc Zd Zb ZQ Zj Zh Ze3 Za Zat Zk ZF Z0 Zag ZH Zau Bool.cond_decide Bool.cond_not Int.toNat_natCast
set_option linter.unusedSimpArgs false
namespace Fi
structure Q4 where
  x1 : Int
  x2 : Int
  y1 : Int
  y2 : Int
def Q4.ok (s : Q4) : Prop := (-32768 ≤ s.x1 ∧ s.x1 ≤ 32767) ∧ (-32768 ≤ s.x2 ∧ s.x2 ≤ 32767) ∧ (-32768 ≤ s.y1 ∧ s.y1 ≤ 32767) ∧ (-32768 ≤ s.y2 ∧ s.y2 ≤ 32767)
def okC (x : Int) : Prop := -32768 ≤ x ∧ x ≤ 32768
instance (x : Int) : Decidable (okC x) := by unfold okC; infer_instance
def Right (c0 c1 c2 c3 c4 : Int) : Prop := okC c0 ∧ okC c1 ∧ okC c2 ∧ okC c3 ∧ okC c4
instance (c0 c1 c2 c3 c4 : Int) : Decidable (Right c0 c1 c2 c3 c4) := by unfold Right; infer_instance
def sumV (c0 c1 c2 c3 c4 : Int) (s : Q4) (v : Int) : Int := c0 * satV v + c1 * s.x1 + c2 * s.x2 + c3 * s.y1 + c4 * s.y2
def outV (c0 c1 c2 c3 c4 : Int) (s : Q4) (v : Int) : Int := satV ((sumV c0 c1 c2 c3 c4 s v + 8192) / 16384)
def nxt (c0 c1 c2 c3 c4 : Int) (s : Q4) (v : Int) : Q4 := ⟨satV v, s.x1, outV c0 c1 c2 c3 c4 s v, s.y1⟩
theorem nxt_ok (c0 c1 c2 c3 c4 : Int) {s : Q4} (h : s.ok) (v : Int) : (nxt c0 c1 c2 c3 c4 s v).ok := by
  have h1 := Zdx v
  have h2 := Zdx ((sumV c0 c1 c2 c3 c4 s v + 8192) / 16384)
  exact ⟨h1, h.1, h2, h.2.2.1⟩
theorem pb {a b : Int} (ha : okC a) (hb : -32768 ≤ b ∧ b ≤ 32767) : -1073741824 ≤ a * b ∧ a * b ≤ 1073741824 := by
  unfold okC at ha
  rcases Int.le_total 0 a with h | h
  · have u1 := Int.mul_le_mul_of_nonneg_left hb.2 h
    have u2 := Int.mul_le_mul_of_nonneg_left hb.1 h
    omega
  · have u1 := Int.mul_le_mul_of_nonpos_left h hb.2
    have u2 := Int.mul_le_mul_of_nonpos_left h hb.1
    omega
theorem ZnK (c0 c1 c2 c3 c4 : Int) (hc : Right c0 c1 c2 c3 c4) {s : Q4} (h : s.ok) (v : Int) :
    IntKind.i64.wrap (IntKind.i64.wrap (IntKind.i64.wrap (IntKind.i64.wrap (IntKind.i64.wrap (c0 * satV v) + IntKind.i64.wrap (c1 * s.x1)) + IntKind.i64.wrap (c2 * s.x2)) + IntKind.i64.wrap (c3 * s.y1)) + IntKind.i64.wrap (c4 * s.y2)) = sumV c0 c1 c2 c3 c4 s v ∧ (-5368709120 ≤ sumV c0 c1 c2 c3 c4 s v ∧ sumV c0 c1 c2 c3 c4 s v ≤ 5368709120) := by
  obtain ⟨k0, k1, k2, k3, k4⟩ := hc
  have p0 := pb k0 (Zdx v)
  have p1 := pb k1 h.1
  have p2 := pb k2 h.2.1
  have p3 := pb k3 h.2.2.1
  have p4 := pb k4 h.2.2.2
  unfold sumV
  generalize c0 * satV v = e0 at *
  generalize c1 * s.x1 = e1 at *
  generalize c2 * s.x2 = e2 at *
  generalize c3 * s.y1 = e3 at *
  generalize c4 * s.y2 = e4 at *
  rw [wrap64 (x := e0) (by omega) (by omega), wrap64 (x := e1) (by omega) (by omega), wrap64 (x := e2) (by omega) (by omega), wrap64 (x := e3) (by omega) (by omega), wrap64 (x := e4) (by omega) (by omega),
    wrap64 (x := e0 + e1) (by omega) (by omega), wrap64 (x := e0 + e1 + e2) (by omega) (by omega), wrap64 (x := e0 + e1 + e2 + e3) (by omega) (by omega), wrap64 (x := e0 + e1 + e2 + e3 + e4) (by omega) (by omega)]
  exact ⟨rfl, by omega⟩
theorem next_ok (c0 c1 c2 c3 c4 : Int) (hc : Right c0 c1 c2 c3 c4) {s : Q4} (h : s.ok) (v : Int) : g33 (0, I8 v c0 c1 c2 c3 c4 (s).x1 (s).x2 [.i (s).y1, .i (s).y2]) = some (0, I8 (outV c0 c1 c2 c3 c4 s v) c0 c1 c2 c3 c4 (nxt c0 c1 c2 c3 c4 s v).x1 (nxt c0 c1 c2 c3 c4 s v).x2 [.i (nxt c0 c1 c2 c3 c4 s v).y1, .i (nxt c0 c1 c2 c3 c4 s v).y2]) := by
  obtain ⟨w, b⟩ := ZnK c0 c1 c2 c3 c4 hc h v
  have hr := round14 (sumV c0 c1 c2 c3 c4 s v) (by unfold In64; omega)
  have hs : ZbS v (-32768) 32767 = satV v := rfl
  simp -implicitDefEqProofs only [g33, g33_0, asI_i, Zc, Zd, Zb, I4, I8, I16, Za, Zgg, hs, Zk, w, hr, ZiS, outV, nxt]
theorem ZeY (x : Int) : g42 (0, [.i x]) = some (0, [.i (satV x)]) := by
  simp -implicitDefEqProofs only [g42, g42_0, asI_i, Zc, Zd, Zb, I4, I8, I16, Za, Bool.cond_decide]
  unfold satV ZbS
  repeat' split
  all_goals first | rfl | omega
theorem nextL_ok (c0 c1 c2 c3 c4 : Int) (hc : Right c0 c1 c2 c3 c4) {s : Q4} (h : s.ok) (v : Int) : g37 (0, I8 v c0 c1 c2 c3 c4 (s).x1 (s).x2 [.i (s).y1, .i (s).y2]) = some (0, I8 (outV c0 c1 c2 c3 c4 s v) c0 c1 c2 c3 c4 (nxt c0 c1 c2 c3 c4 s v).x1 (nxt c0 c1 c2 c3 c4 s v).x2 [.i (nxt c0 c1 c2 c3 c4 s v).y1, .i (nxt c0 c1 c2 c3 c4 s v).y2]) := by
  obtain ⟨w, b⟩ := ZnK c0 c1 c2 c3 c4 hc h v
  have w2 : IntKind.i64.wrap (sumV c0 c1 c2 c3 c4 s v + 8192) = sumV c0 c1 c2 c3 c4 s v + 8192 := wrap64 (by omega) (by omega)
  have hf := Zbx (sumV c0 c1 c2 c3 c4 s v + 8192) (b := 16384) (by omega)
  simp -implicitDefEqProofs only [g37, g37_0, asI_i, Zc, Zd, Zb, I4, I8, I16, Za, ZeY, Zk, w, w2, Bool.cond_decide]
  have hd : -5368709120 ≤ (sumV c0 c1 c2 c3 c4 s v + 8192) / 16384 ∧ (sumV c0 c1 c2 c3 c4 s v + 8192) / 16384 ≤ 5368709120 := by omega
  by_cases c : Int.tmod (sumV c0 c1 c2 c3 c4 s v + 8192) 16384 < 0
  · rw [if_pos c] at hf
    rw [if_pos c, wrap64 (x := Int.tdiv (sumV c0 c1 c2 c3 c4 s v + 8192) 16384) (by omega) (by omega), hf, wrap64 (x := (sumV c0 c1 c2 c3 c4 s v + 8192) / 16384) (by omega) (by omega)]
    rfl
  · rw [if_neg c] at hf
    rw [if_neg c, hf, wrap64 (x := (sumV c0 c1 c2 c3 c4 s v + 8192) / 16384) (by omega) (by omega)]
    rfl
def z4 : Q4 := ⟨0, 0, 0, 0⟩
theorem z4_ok : z4.ok := by unfold z4 Q4.ok; simp
theorem get5 (c0 c1 c2 c3 c4 : Int) (hc : Right c0 c1 c2 c3 c4) {k : Nat} (hk : k < 5) : okC ([c0, c1, c2, c3, c4].getD k 0) := by
  obtain ⟨k0, k1, k2, k3, k4⟩ := hc
  match k, hk with
  | 0, _ => exact k0
  | 1, _ => exact k1
  | 2, _ => exact k2
  | 3, _ => exact k3
  | 4, _ => exact k4
theorem Zl6 (c0 c1 c2 c3 c4 : Int) (h : ∀ k, k < 5 → okC ([c0, c1, c2, c3, c4].getD k 0)) : Right c0 c1 c2 c3 c4 := ⟨h 0 (by omega), h 1 (by omega), h 2 (by omega), h 3 (by omega), h 4 (by omega)⟩
theorem right6 (c0 c1 c2 c3 c4 : Int) : g24 (0, I4 c0 c1 c2 c3 [.i c4]) = some (0, [.b (decide (Right c0 c1 c2 c3 c4))]) := by
  have hl := ZkW (f := f24_0) (fun k => (I8 c0 c1 c2 c3 c4 k c0 c1 [.i c2, .i c3, .i c4])) (fun k => decide (okC ([c0, c1, c2, c3, c4].getD k 0))) 5 (r1 := (I4 c0 c1 c2 c3 [.i c4])) (r2 := (I4 c0 c1 c2 c3 [.i c4])) (fun k hk hp => ?_) (fun k hk hp => ?_) ?_ (by omega)
  · have hL : Znb (0, I8 c0 c1 c2 c3 c4 0 c0 c1 [.i c2, .i c3, .i c4]) = if (List.range 5).all (fun k => decide (okC ([c0, c1, c2, c3, c4].getD k 0))) = true then some (0, I4 c0 c1 c2 c3 [.i c4]) else some (1, I4 c0 c1 c2 c3 [.i c4]) := hl
    simp -implicitDefEqProofs only [g24, g24_0, asI_i, Zc, Zd, Zb, I4, I8, I16, Za, hL]
    by_cases h : Right c0 c1 c2 c3 c4
    · rw [if_pos (List.all_eq_true.2 fun k hk => decide_eq_true (get5 c0 c1 c2 c3 c4 h (List.mem_range.1 hk))), Zk, decide_eq_true h]
      rfl
    · rw [if_neg (fun hh => h (Zl6 c0 c1 c2 c3 c4 fun k hk => of_decide_eq_true (List.all_eq_true.1 hh k (List.mem_range.2 hk)))), ZF, decide_eq_false h]
      rfl
  · have hx := ZbO (l := [c0, c1, c2, c3, c4]) (i := k) (by simpa using hk)
    have hp := of_decide_eq_true hp
    unfold okC at hp
    generalize [c0, c1, c2, c3, c4].getD k 0 = x at *
    have w2 : IntKind.i64.wrap ((k : Int) + 1) = ((k + 1 : Nat) : Int) := Z6 (n := k + 1) (by omega)
    simp -implicitDefEqProofs only [f24_0, f24_0_0, asI_i, Zc, Zd, Zb, I4, I8, I16, Za, Bool.cond_decide, if_pos (show (k : Int) < 5 by omega), if_pos (show (0 : Int) ≤ k ∧ (k : Int) < 5 by omega), Int.toNat_natCast, hx, ZH, if_neg (show ¬ x < -32768 by omega), if_neg (show ¬ 32768 < x by omega), w2]
  · have hx := ZbO (l := [c0, c1, c2, c3, c4]) (i := k) (by simpa using hk)
    have hp := of_decide_eq_false hp
    unfold okC at hp
    generalize [c0, c1, c2, c3, c4].getD k 0 = x at *
    simp -implicitDefEqProofs only [f24_0, f24_0_0, asI_i, Zc, Zd, Zb, I4, I8, I16, Za, Bool.cond_decide, if_pos (show (k : Int) < 5 by omega), if_pos (show (0 : Int) ≤ k ∧ (k : Int) < 5 by omega), Int.toNat_natCast, hx, ZH]
    by_cases c : x < -32768
    · rw [if_pos c]
    · rw [if_neg c, if_pos (by omega)]
  · simp -implicitDefEqProofs only [f24_0, f24_0_0, asI_i, Zc, Zd, Zb, I4, I8, I16, Za, Bool.cond_decide, if_neg (show ¬ ((5 : Nat) : Int) < 5 by omega)]
theorem new_yes (c0 c1 c2 c3 c4 : Int) (hc : Right c0 c1 c2 c3 c4) : g22 (0, I4 c0 c1 c2 c3 [.i c4]) = some (0, I8 0 c0 c1 c2 c3 c4 0 0 [.i 0, .i 0]) := by
  simp -implicitDefEqProofs only [g22, g22_0, asI_i, Zc, Zd, Zb, I4, I8, I16, ZQ, Za, right6, Zk, decide_eq_true hc, Bool.not_true, cond_false]
theorem new_no (c0 c1 c2 c3 c4 : Int) (hc : ¬ Right c0 c1 c2 c3 c4) : g22 (0, I4 c0 c1 c2 c3 [.i c4]) = some (1, [.i 1]) := by
  simp -implicitDefEqProofs only [g22, g22_0, asI_i, Zc, Zd, Zb, I4, I8, I16, ZQ, Za, right6, Zk, decide_eq_false hc, Bool.not_false, cond_true]
end Fi
namespace Ec
def RightE (D b w : Int) : Prop := 1 ≤ D ∧ D ≤ 4096 ∧ 0 ≤ b ∧ b ≤ 255 ∧ 0 ≤ w ∧ w ≤ 256
instance (D b w : Int) : Decidable (RightE D b w) := by unfold RightE; infer_instance
theorem right_ok (D b w : Int) : g25 (0, [.i D, .i b, .i w]) = some (0, [.b (decide (RightE D b w))]) := by
  simp -implicitDefEqProofs only [g25, g25_0, asI_i, Zc, Zd, Zb, I4, I8, I16, Za, Bool.cond_decide]
  by_cases h : RightE D b w
  · rw [decide_eq_true h]
    unfold RightE at h
    rw [if_pos (by omega), if_pos (by omega), if_pos (by omega), if_pos (by omega), if_pos (by omega), decide_eq_true (by omega)]
  · rw [decide_eq_false h]
    unfold RightE at h
    repeat' split
    all_goals first | rfl | rw [decide_eq_false (by omega)]
theorem ZeY (x : Int) : g43 (0, [.i x]) = some (0, [.i (satV x)]) := by
  simp -implicitDefEqProofs only [g43, g43_0, asI_i, Zc, Zd, Zb, I4, I8, I16, Za, Bool.cond_decide]
  unfold satV ZbS
  repeat' split
  all_goals first | rfl | omega
def Small (x : Int) : Prop := -1073741824 ≤ x ∧ x ≤ 1073741824
theorem ZiU (a b : Int) (ha : Small a) (hb : Small b) (l : List Int) (k : Nat) (hk : k < 2) (hg : l[k]? = some b) : f32_0 (0, [.i a, .n 2, .i 2, .i k, .l l]) = some (0, [.i (a + b), .n 2, .i 2, .i (k + 1 : Nat), .l l]) := by
  unfold Small at ha hb
  have h1 : (k : Int) < 2 := by omega
  have h0 : (0 : Int) ≤ k ∧ (k : Int) < ((2 : Nat) : Int) := by omega
  have w2 : IntKind.i64.wrap ((k : Int) + 1) = ((k + 1 : Nat) : Int) := Z6 (n := k + 1) (by omega)
  have w : IntKind.i64.wrap (a + b) = a + b := wrap64 (by omega) (by omega)
  simp -implicitDefEqProofs only [f32_0, f32_0_0, asI_i, Zc, Zd, Zb, I4, I8, I16, Zh, Zj, Za, Bool.cond_decide, if_pos h1, if_pos h0, Int.toNat_natCast, hg, ZH, w2, w]
  by_cases a1 : 0 < a
  · by_cases b1 : 0 < b
    · rw [if_pos a1, if_pos b1, if_neg (by omega), if_neg (by omega)]
    · rw [if_pos a1, if_neg b1, if_neg (by omega)]
  · rw [if_neg a1]
    by_cases a2 : a < 0
    · rw [if_pos a2]
      by_cases b2 : b < 0
      · rw [if_pos b2, if_neg (by omega)]
      · rw [if_neg b2]
    · rw [if_neg a2]
theorem ZmA (a b : Int) (ha : Small a) (hb : Small b) : g32 (0, [.n 2, .l [a, b]]) = some (0, [.i (a + b), .l [a, b]]) := by
  have hl : Zna (0, [.i 0, .n 2, .i 2, .i 0, .l [a, b]]) = some (0, [.i (a + b), .l [a, b]]) := by
    have main := ZeU (f := f32_0) (fun k => [.i (if k = 0 then 0 else if k = 1 then a else a + b), .n 2, .i 2, .i k, .l [a, b]]) 2 (j := 0) (r := [.i (a + b), .l [a, b]]) (fun k hk => ?_) ?_ (by omega)
    · exact main
    · match k, hk with
      | 0, _ =>
        have := ZiU 0 a (by unfold Small; omega) ha [a, b] 0 (by omega) rfl
        rw [Int.zero_add] at this
        exact this
      | 1, _ => exact ZiU a b ha hb [a, b] 1 (by omega) rfl
    · rfl
  have e2 : ((2 : Nat) : Int) = 2 := rfl
  simp -implicitDefEqProofs only [g32, g32_0, Zh, Zj, asI_i, Zc, Zd, Zb, I4, I8, I16, Za, e2, hl, Zk]
def ZaW (v o : Int) : Int := (v * o + 128) / 256
theorem ZcO {v o : Int} (hv : -32768 ≤ v ∧ v ≤ 32767) (ho : 0 ≤ o ∧ o ≤ 256) : (-8388608 ≤ v * o ∧ v * o ≤ 8388352) ∧ -32768 ≤ ZaW v o ∧ ZaW v o ≤ 32767 := by
  have h : -8388608 ≤ v * o ∧ v * o ≤ 8388352 := by
    rcases Int.le_total 0 v with h | h
    · have u1 := Int.mul_le_mul hv.2 ho.2 ho.1 (by omega : (0 : Int) ≤ 32767)
      have u2 := Int.mul_nonneg h ho.1
      omega
    · have u1 := Int.mul_le_mul (show -v ≤ 32768 by omega) ho.2 ho.1 (by omega : (0 : Int) ≤ 32768)
      have u2 := Int.mul_nonneg (show 0 ≤ -v by omega) ho.1
      rw [Int.neg_mul] at u1 u2
      omega
  unfold ZaW
  generalize v * o = x at *
  omega
def oldV (D : Nat) (K : List Int) : Int := if D ≤ K.length then K.getD (K.length - D) 0 else 0
def newV (D : Nat) (b : Int) (K : List Int) (v : Int) : Int := satV (v + ZaW (oldV D K) b)
def kept (D : Nat) (b : Int) (F : Nat → Int) : Nat → List Int
  | 0 => []
  | k + 1 => kept D b F k ++ [newV D b (kept D b F k) (F k)]
def ring (D : Nat) (b : Int) (F : Nat → Int) : Nat → List Int
  | 0 => List.replicate D 0
  | k + 1 => (ring D b F k).set (k % D) (newV D b (kept D b F k) (F k))
def tellV (D : Nat) (b w : Int) (F : Nat → Int) (k : Nat) : Int := satV (F k + ZaW (oldV D (kept D b F k)) w)
theorem Zdh (D : Nat) (b : Int) (F : Nat → Int) : ∀ k, (kept D b F k).length = k
  | 0 => rfl
  | k + 1 => by rw [kept, List.length_append, Zdh D b F k]; rfl
theorem Zgi (D : Nat) (b : Int) (F : Nat → Int) : ∀ k, (ring D b F k).length = D
  | 0 => by simp [ring]
  | k + 1 => by rw [ring, List.length_set, Zgi D b F k]
theorem Zla (D : Nat) (b : Int) (F : Nat → Int) : ∀ k, ∀ x ∈ kept D b F k, -32768 ≤ x ∧ x ≤ 32767
  | 0, x, h => by cases h
  | k + 1, x, h => by
    rw [kept, List.mem_append, List.mem_singleton] at h
    rcases h with h | rfl
    · exact Zla D b F k x h
    · exact Zdx _
theorem ZmB (D : Nat) (b : Int) (F : Nat → Int) (k : Nat) : -32768 ≤ oldV D (kept D b F k) ∧ oldV D (kept D b F k) ≤ 32767 := by
  unfold oldV
  split
  · by_cases h : (kept D b F k).length - D < (kept D b F k).length
    · exact Zla D b F k _ (List.mem_of_getElem? (ZbO h))
    · have : (kept D b F k).getD ((kept D b F k).length - D) 0 = 0 := by simp [List.getElem?_eq_none (show (kept D b F k).length ≤ (kept D b F k).length - D by omega)]
      omega
  · omega
theorem Zlb {D : Nat} {b : Int} {F : Nat → Int} {k j : Nat} (h : j < k) : (kept D b F (k + 1)).getD j 0 = (kept D b F k).getD j 0 := by
  have hl := Zdh D b F k
  simp [kept, List.getElem?_append_left (show j < (kept D b F k).length by omega)]
theorem Zlc {D : Nat} {b : Int} {F : Nat → Int} {k : Nat} : (kept D b F (k + 1)).getD k 0 = newV D b (kept D b F k) (F k) := by
  have hl := Zdh D b F k
  simp [kept, List.getElem?_append_right (show (kept D b F k).length ≤ k by omega), hl]
theorem Zld {D : Nat} (hD : 1 ≤ D) (b : Int) (F : Nat → Int) : ∀ k i, k ≤ i → i < k + D → (ring D b F k)[i % D]? = some (if i < D then 0 else (kept D b F k).getD (i - D) 0)
  | 0, i, h1, h2 => by
    rw [if_pos (by omega)]
    have : i % D < D := Nat.mod_lt _ (by omega)
    simp [ring, this]
  | k + 1, i, h1, h2 => by
    have hlen := Zgi D b F k
    have hmk : k % D < D := Nat.mod_lt _ (by omega)
    have hmi : i % D < D := Nat.mod_lt _ (by omega)
    rw [ring, List.getElem?_set]
    by_cases e : i = k + D
    · have em : k % D = i % D := by rw [e, Nat.add_mod_right]
      rw [if_pos em, if_pos (by omega), if_neg (by omega), show i - D = k by omega, Zlc]
    · have hne : k % D ≠ i % D := by
        intro hh
        have := Nat.sub_mod_eq_zero_of_mod_eq hh.symm
        have hd : D ∣ i - k := Nat.dvd_of_mod_eq_zero this
        have := Nat.le_of_dvd (by omega) hd
        omega
      rw [if_neg hne, Zld hD b F k i (by omega) (by omega)]
      by_cases c : i < D
      · rw [if_pos c, if_pos c]
      · rw [if_neg c, if_neg c, Zlb (by omega)]
theorem Zl7 {D : Nat} (hD : 1 ≤ D) (b : Int) (F : Nat → Int) (k : Nat) : (ring D b F k)[k % D]? = some (oldV D (kept D b F k)) := by
  rw [Zld hD b F k k (Nat.le_refl _) (by omega)]
  unfold oldV
  rw [Zdh]
  by_cases c : D ≤ k
  · rw [if_pos c, if_neg (by omega)]
  · rw [if_neg c, if_pos (by omega)]
theorem Zjx {D k : Nat} (hD : 1 ≤ D ∧ D ≤ 4096) : Int.tmod (IntKind.i64.wrap (((k % D : Nat) : Int) + 1)) (D : Int) = (((k + 1) % D : Nat) : Int) := by
  have hm : k % D < D := Nat.mod_lt _ (by omega)
  rw [wrap64 (by omega) (by omega)]
  rw [show ((k % D : Nat) : Int) + 1 = ((k % D + 1 : Nat) : Int) from rfl]
  rw [show Int.tmod ((k % D + 1 : Nat) : Int) (D : Int) = (((k % D + 1) % D : Nat) : Int) from rfl, Nat.mod_add_mod]
theorem next_ok {D : Nat} (hD : 1 ≤ D ∧ D ≤ 4096) {b w : Int} (hb : 0 ≤ b ∧ b ≤ 256) (hw : 0 ≤ w ∧ w ≤ 256) (F : Nat → Int) (k : Nat) (hF : Small (F k)) :
    g34 (0, I4 (F k) D b w [.n D, .i (k % D : Nat), .l (ring D b F k)]) = some (0, I4 (tellV D b w F k) D b w [.n D, .i ((k + 1) % D : Nat), .l (ring D b F (k + 1))]) := by
  have hm : k % D < D := Nat.mod_lt _ (by omega)
  have ho := ZmB D b F k
  have hx := Zl7 hD.1 b F k
  have p1 := ZcO ho hb
  have p2 := ZcO ho hw
  have hlen := Zgi D b F k
  have w1 : IntKind.i64.wrap (oldV D (kept D b F k) * b) = oldV D (kept D b F k) * b := wrap64 (by omega) (by omega)
  have w2 : IntKind.i64.wrap (oldV D (kept D b F k) * w) = oldV D (kept D b F k) * w := wrap64 (by omega) (by omega)
  have r1 : g41 (0, [.i (oldV D (kept D b F k) * b), .i 8]) = some (0, [.i (ZaW (oldV D (kept D b F k)) b)]) := round8 _ (by unfold In64; omega)
  have r2 : g41 (0, [.i (oldV D (kept D b F k) * w), .i 8]) = some (0, [.i (ZaW (oldV D (kept D b F k)) w)]) := round8 _ (by unfold In64; omega)
  have a1 := ZmA (F k) (ZaW (oldV D (kept D b F k)) b) hF (by unfold Small; omega)
  have a2 := ZmA (F k) (ZaW (oldV D (kept D b F k)) w) hF (by unfold Small; omega)
  have e1 : ring D b F (k + 1) = (ring D b F k).set (k % D) (satV (F k + ZaW (oldV D (kept D b F k)) b)) := rfl
  have e2 : tellV D b w F k = satV (F k + ZaW (oldV D (kept D b F k)) w) := rfl
  rw [e1, e2]
  generalize oldV D (kept D b F k) = o at *
  simp -implicitDefEqProofs only [g34, g34_0, asI_i, Zc, Zd, Zb, I4, I8, I16, Zh, Zj, Za, Bool.cond_decide, if_neg (show ¬ (D : Int) = 0 by omega), if_pos (show (0 : Int) ≤ ((k % D : Nat) : Int) ∧ ((k % D : Nat) : Int) < (D : Int) by omega), Int.toNat_natCast, hx, ZH, w1, w2, r1, r2, a1, a2, Zk, ZiS, if_pos (show k % D < (ring D b F k).length by omega), Zjx hD]
theorem new_yes {D : Nat} {b w : Int} (h : RightE D b w) (F : Nat → Int) : g23 (0, [.i D, .i b, .i w]) = some (0, I4 0 D b w [.n D, .i 0, .l (ring D b F 0)]) := by
  have hr := right_ok D b w
  rw [decide_eq_true h] at hr
  unfold RightE at h
  have e : ring D b F 0 = List.replicate D 0 := rfl
  simp -implicitDefEqProofs only [g23, g23_0, asI_i, Zc, Zd, Zb, I4, I8, I16, ZQ, Za, hr, Zk, Bool.not_true, cond_false, if_true, if_pos h.1, if_pos (show (0 : Int) ≤ D by omega), if_pos (show 8 * (D : Int) ≤ 140737488355328 by omega), if_pos (show (D : Int) ≤ 9223372036854775807 by omega), Int.toNat_natCast, e]
theorem new_no {D b w : Int} (h : ¬ RightE D b w) : g23 (0, [.i D, .i b, .i w]) = some (1, [.i 1]) := by
  have hr := right_ok D b w
  rw [decide_eq_false h] at hr
  simp -implicitDefEqProofs only [g23, g23_0, asI_i, Zc, Zd, Zb, I4, I8, I16, ZQ, Za, hr, Zk, Bool.not_false, cond_true]
theorem Zd6 {v o : Int} (hv : -32768 ≤ v ∧ v ≤ 32767) (ho : 0 ≤ o ∧ o ≤ 256) : g44 (0, [.i v, .i o]) = some (0, [.i (ZaW v o)]) := by
  have h := ZcO hv ho
  have hf := Zbx (v * o + 128) (b := 256) (by omega)
  have w1 : IntKind.i64.wrap (v * o) = v * o := wrap64 (by omega) (by omega)
  have w2 : IntKind.i64.wrap (v * o + 128) = v * o + 128 := wrap64 (by omega) (by omega)
  unfold ZaW at h ⊢
  simp -implicitDefEqProofs only [g44, g44_0, asI_i, Zc, Zd, Zb, I4, I8, I16, Za, Bool.cond_decide, w1, w2]
  by_cases c : Int.tmod (v * o + 128) 256 < 0
  · rw [if_pos c] at hf
    rw [if_pos c, wrap64 (x := Int.tdiv (v * o + 128) 256) (by omega) (by omega), hf, wrap64 (by omega) (by omega)]
  · rw [if_neg c] at hf
    rw [if_neg c, hf, wrap64 (by omega) (by omega)]
theorem nextL_ok {D : Nat} (hD : 1 ≤ D ∧ D ≤ 4096) {b w : Int} (hb : 0 ≤ b ∧ b ≤ 256) (hw : 0 ≤ w ∧ w ≤ 256) (F : Nat → Int) (k : Nat) (hk : k ≤ 1000) (hF : Small (F k)) :
    g38 (0, I4 (F k) D b w [.n k, .l (kept D b F k)]) = some (0, I4 (tellV D b w F k) D b w [.n (k + 1), .l (kept D b F (k + 1))]) := by
  have ho := ZmB D b F k
  have p1 := ZcO ho hb
  have p2 := ZcO ho hw
  have hlen := Zdh D b F k
  unfold Small at hF
  have e1 : kept D b F (k + 1) = kept D b F k ++ [satV (F k + ZaW (oldV D (kept D b F k)) b)] := rfl
  have e2 : tellV D b w F k = satV (F k + ZaW (oldV D (kept D b F k)) w) := rfl
  have w1 : IntKind.i64.wrap (F k + ZaW (oldV D (kept D b F k)) b) = F k + ZaW (oldV D (kept D b F k)) b := wrap64 (by omega) (by omega)
  have w2 : IntKind.i64.wrap (F k + ZaW (oldV D (kept D b F k)) w) = F k + ZaW (oldV D (kept D b F k)) w := wrap64 (by omega) (by omega)
  have q1 := Zd6 ho hb
  have q2 := Zd6 ho hw
  rw [e1, e2]
  simp -implicitDefEqProofs only [g38, g38_0, asI_i, Zc, Zd, Zb, I4, I8, I16, Zh, Zj, Za, Bool.cond_decide]
  by_cases c : (D : Int) ≤ (k : Int)
  · have hx := ZbO (l := kept D b F k) (i := k - D) (by omega)
    have hov : oldV D (kept D b F k) = (kept D b F k).getD (k - D) 0 := by unfold oldV; rw [hlen, if_pos (by omega)]
    rw [← hov] at hx
    have w3 : IntKind.i64.wrap ((k : Int) - D) = ((k - D : Nat) : Int) := by rw [wrap64 (by omega) (by omega)]; omega
    simp -implicitDefEqProofs only [if_pos c, w3, if_pos (show (0 : Int) ≤ ((k - D : Nat) : Int) ∧ ((k - D : Nat) : Int) < (k : Int) by omega), Int.toNat_natCast, hx, ZH, q1, q2, Zk, asI_i, Zc, Zd, Zb, I4, I8, I16, Za, w1, w2, ZeY, if_pos (show (k + 1) * 8 ≤ 70368744177664 by omega), if_pos (show (kept D b F k).length = k * 1 by omega)]
  · have hov : oldV D (kept D b F k) = 0 := by unfold oldV; rw [hlen, if_neg (by omega)]
    rw [hov] at q1 q2 w1 w2
    rw [hov]
    simp -implicitDefEqProofs only [if_neg c, q1, q2, Zk, asI_i, Zc, Zd, Zb, I4, I8, I16, Za, w1, w2, ZeY, if_pos (show (k + 1) * 8 ≤ 70368744177664 by omega), if_pos (show (kept D b F k).length = k * 1 by omega)]
theorem nextL_0 {D : Nat} (hD : 1 ≤ D ∧ D ≤ 4096) {b w : Int} (hb : 0 ≤ b ∧ b ≤ 256) (hw : 0 ≤ w ∧ w ≤ 256) (F : Nat → Int) (hF : Small (F 0)) :
    g38 (1, I4 (F 0) D b w []) = some (1, I4 (tellV D b w F 0) D b w [.n 1, .i (newV D b [] (F 0))]) := by
  have ho : -32768 ≤ (0 : Int) ∧ (0 : Int) ≤ 32767 := by omega
  have p1 := ZcO ho hb
  have p2 := ZcO ho hw
  unfold Small at hF
  have hov : oldV D [] = 0 := by unfold oldV; rw [if_neg (by simp; omega)]
  have e1 : newV D b [] (F 0) = satV (F 0 + ZaW 0 b) := by unfold newV; rw [hov]
  have e2 : tellV D b w F 0 = satV (F 0 + ZaW 0 w) := by unfold tellV; rw [show kept D b F 0 = [] from rfl, hov]
  have w1 : IntKind.i64.wrap (F 0 + ZaW 0 b) = F 0 + ZaW 0 b := wrap64 (by omega) (by omega)
  have w2 : IntKind.i64.wrap (F 0 + ZaW 0 w) = F 0 + ZaW 0 w := wrap64 (by omega) (by omega)
  rw [e1, e2]
  simp -implicitDefEqProofs only [g38, g38_1, asI_i, Zc, Zd, Zb, I4, I8, I16, Za, Bool.cond_decide, if_neg (show ¬ (D : Int) ≤ 0 by omega), Zd6 ho hb, Zd6 ho hw, Zk, w1, w2, ZeY]
end Ec
end Go.Proofs.Ytlbfafbhflblcaa
