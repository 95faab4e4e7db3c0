/-
  What an echo tells, and what it keeps. Conditions: none.
-/
import Derived.Test.YtmmhmccmbohmoaaNumcC
namespace Go.Proofs.Ytmmhmccmbohmoaa
open Go Go.Sx C
set_option maxRecDepth 100000
set_option linter.unusedVariables false
attribute [local simp] asI_i asB_b asL_l asN_n asS_s asE_nil altK_none altK_0 altK_1 altK_2 altK_3 optK_some optK_none Bool.cond_decide Bool.cond_not Int.toNat_natCast
set_option linter.unusedSimpArgs false
def RightE (D b w : Int) : Prop := 1 ≤ D ∧ D ≤ 4096 ∧ 0 ≤ b ∧ b ≤ 255 ∧ 0 ≤ w ∧ w ≤ 256
instance (D b w : Int) : Decidable (RightE D b w) := by unfold RightE; infer_instance
theorem right_ok (D b w : Int) : g8 (0, [.i D, .i b, .i w]) = some (0, [.b (decide (RightE D b w))]) := by
  simp -implicitDefEqProofs only [g8, g8_0, asI_i, asE_nil, Bool.cond_decide]
  by_cases h : RightE D b w
  · rw [decide_eq_true h]
    unfold RightE at h
    rw [if_pos (by omega), if_pos (by omega), if_pos (by omega), if_pos (by omega), if_pos (by omega), decide_eq_true (by omega)]
  · rw [decide_eq_false h]
    unfold RightE at h
    repeat' split
    all_goals first | rfl | rw [decide_eq_false (by omega)]
theorem rightL_ok (D b w : Int) : g9 (0, [.i D, .i b, .i w]) = some (0, [.b (decide (RightE D b w))]) := by
  simp -implicitDefEqProofs only [g9, g9_0, asI_i, asE_nil, Bool.cond_decide]
  by_cases h : RightE D b w
  · rw [decide_eq_true h]
    unfold RightE at h
    rw [if_pos (by omega), if_pos (by omega), if_pos (by omega), if_pos (by omega), if_pos (by omega), decide_eq_true (by omega)]
  · rw [decide_eq_false h]
    unfold RightE at h
    repeat' split
    all_goals first | rfl | rw [decide_eq_false (by omega)]
theorem hold_ok (x : Int) : g16 (0, [.i x]) = some (0, [.i (satV x)]) := by
  simp -implicitDefEqProofs only [g16, g16_0, asI_i, asE_nil, Bool.cond_decide]
  unfold satV clampV
  repeat' split
  all_goals first | rfl | omega
def Small (x : Int) : Prop := -1073741824 ≤ x ∧ x ≤ 1073741824
theorem add_step (a b : Int) (ha : Small a) (hb : Small b) (l : List Int) (k : Nat) (hk : k < 2) (hg : l[k]? = some b) : f19_0 (0, [.i a, .n 2, .i 2, .i k, .l l]) = some (0, [.i (a + b), .n 2, .i 2, .i (k + 1 : Nat), .l l]) := by
  unfold Small at ha hb
  have h1 : (k : Int) < 2 := by omega
  have h0 : (0 : Int) ≤ k ∧ (k : Int) < ((2 : Nat) : Int) := by omega
  have w2 : IntKind.i64.wrap ((k : Int) + 1) = ((k + 1 : Nat) : Int) := wrap_nat (n := k + 1) (by omega)
  have w : IntKind.i64.wrap (a + b) = a + b := wrap64 (by omega) (by omega)
  simp -implicitDefEqProofs only [f19_0, f19_0_0, asI_i, asN_n, asL_l, asE_nil, Bool.cond_decide, if_pos h1, if_pos h0, Int.toNat_natCast, hg, optK_some, w2, w]
  by_cases a1 : 0 < a
  · by_cases b1 : 0 < b
    · rw [if_pos a1, if_pos b1, if_neg (by omega), if_neg (by omega)]
    · rw [if_pos a1, if_neg b1, if_neg (by omega)]
  · rw [if_neg a1]
    by_cases a2 : a < 0
    · rw [if_pos a2]
      by_cases b2 : b < 0
      · rw [if_pos b2, if_neg (by omega)]
      · rw [if_neg b2]
    · rw [if_neg a2]
theorem add_ok (a b : Int) (ha : Small a) (hb : Small b) : g19 (0, [.n 2, .l [a, b]]) = some (0, [.i (a + b), .l [a, b]]) := by
  have hl : L19_0 (0, [.i 0, .n 2, .i 2, .i 0, .l [a, b]]) = some (0, [.i (a + b), .l [a, b]]) := by
    have main := loop1_run (f := f19_0) (fun k => [.i (if k = 0 then 0 else if k = 1 then a else a + b), .n 2, .i 2, .i k, .l [a, b]]) 2 (j := 0) (r := [.i (a + b), .l [a, b]]) (fun k hk => ?_) ?_ (by omega)
    · exact main
    · match k, hk with
      | 0, _ =>
        have := add_step 0 a (by unfold Small; omega) ha [a, b] 0 (by omega) rfl
        rw [Int.zero_add] at this
        exact this
      | 1, _ => exact add_step a b ha hb [a, b] 1 (by omega) rfl
    · rfl
  have e2 : ((2 : Nat) : Int) = 2 := rfl
  simp -implicitDefEqProofs only [g19, g19_0, asN_n, asL_l, asI_i, asE_nil, e2, hl, altK_0]
/-- So much of a sample, of 256. -/
def partV (v o : Int) : Int := (v * o + 128) / 256
theorem part_in {v o : Int} (hv : -32768 ≤ v ∧ v ≤ 32767) (ho : 0 ≤ o ∧ o ≤ 256) : (-8388608 ≤ v * o ∧ v * o ≤ 8388352) ∧ -32768 ≤ partV v o ∧ partV v o ≤ 32767 := by
  have h : -8388608 ≤ v * o ∧ v * o ≤ 8388352 := by
    rcases Int.le_total 0 v with h | h
    · have u1 := Int.mul_le_mul hv.2 ho.2 ho.1 (by omega : (0 : Int) ≤ 32767)
      have u2 := Int.mul_nonneg h ho.1
      omega
    · have u1 := Int.mul_le_mul (show -v ≤ 32768 by omega) ho.2 ho.1 (by omega : (0 : Int) ≤ 32768)
      have u2 := Int.mul_nonneg (show 0 ≤ -v by omega) ho.1
      rw [Int.neg_mul] at u1 u2
      omega
  unfold partV
  generalize v * o = x at *
  omega
/-- All that is kept, sample by sample, and what is told. -/
def oldV (D : Nat) (K : List Int) : Int := if D ≤ K.length then K.getD (K.length - D) 0 else 0
def newV (D : Nat) (b : Int) (K : List Int) (v : Int) : Int := satV (v + partV (oldV D K) b)
def kept (D : Nat) (b : Int) (F : Nat → Int) : Nat → List Int
  | 0 => []
  | k + 1 => kept D b F k ++ [newV D b (kept D b F k) (F k)]
def ring (D : Nat) (b : Int) (F : Nat → Int) : Nat → List Int
  | 0 => List.replicate D 0
  | k + 1 => (ring D b F k).set (k % D) (newV D b (kept D b F k) (F k))
def tellV (D : Nat) (b w : Int) (F : Nat → Int) (k : Nat) : Int := satV (F k + partV (oldV D (kept D b F k)) w)
theorem kept_len (D : Nat) (b : Int) (F : Nat → Int) : ∀ k, (kept D b F k).length = k
  | 0 => rfl
  | k + 1 => by rw [kept, List.length_append, kept_len D b F k]; rfl
theorem ring_len (D : Nat) (b : Int) (F : Nat → Int) : ∀ k, (ring D b F k).length = D
  | 0 => by simp [ring]
  | k + 1 => by rw [ring, List.length_set, ring_len D b F k]
theorem kept_in (D : Nat) (b : Int) (F : Nat → Int) : ∀ k, ∀ x ∈ kept D b F k, -32768 ≤ x ∧ x ≤ 32767
  | 0, x, h => by cases h
  | k + 1, x, h => by
    rw [kept, List.mem_append, List.mem_singleton] at h
    rcases h with h | rfl
    · exact kept_in D b F k x h
    · exact satV_in _
theorem old_in (D : Nat) (b : Int) (F : Nat → Int) (k : Nat) : -32768 ≤ oldV D (kept D b F k) ∧ oldV D (kept D b F k) ≤ 32767 := by
  unfold oldV
  split
  · by_cases h : (kept D b F k).length - D < (kept D b F k).length
    · exact kept_in D b F k _ (List.mem_of_getElem? (get_some h))
    · have : (kept D b F k).getD ((kept D b F k).length - D) 0 = 0 := by simp [List.getElem?_eq_none (show (kept D b F k).length ≤ (kept D b F k).length - D by omega)]
      omega
  · omega
theorem kept_getD {D : Nat} {b : Int} {F : Nat → Int} {k j : Nat} (h : j < k) : (kept D b F (k + 1)).getD j 0 = (kept D b F k).getD j 0 := by
  have hl := kept_len D b F k
  simp [kept, List.getElem?_append_left (show j < (kept D b F k).length by omega)]
theorem kept_last {D : Nat} {b : Int} {F : Nat → Int} {k : Nat} : (kept D b F (k + 1)).getD k 0 = newV D b (kept D b F k) (F k) := by
  have hl := kept_len D b F k
  simp [kept, List.getElem?_append_right (show (kept D b F k).length ≤ k by omega), hl]
/-- What the ring holds at the place of a round to come. -/
theorem ring_at {D : Nat} (hD : 1 ≤ D) (b : Int) (F : Nat → Int) : ∀ k i, k ≤ i → i < k + D → (ring D b F k)[i % D]? = some (if i < D then 0 else (kept D b F k).getD (i - D) 0)
  | 0, i, h1, h2 => by
    rw [if_pos (by omega)]
    have : i % D < D := Nat.mod_lt _ (by omega)
    simp [ring, this]
  | k + 1, i, h1, h2 => by
    have hlen := ring_len D b F k
    have hmk : k % D < D := Nat.mod_lt _ (by omega)
    have hmi : i % D < D := Nat.mod_lt _ (by omega)
    rw [ring, List.getElem?_set]
    by_cases e : i = k + D
    · have em : k % D = i % D := by rw [e, Nat.add_mod_right]
      rw [if_pos em, if_pos (by omega), if_neg (by omega), show i - D = k by omega, kept_last]
    · have hne : k % D ≠ i % D := by
        intro hh
        have := Nat.sub_mod_eq_zero_of_mod_eq hh.symm
        have hd : D ∣ i - k := Nat.dvd_of_mod_eq_zero this
        have := Nat.le_of_dvd (by omega) hd
        omega
      rw [if_neg hne, ring_at hD b F k i (by omega) (by omega)]
      by_cases c : i < D
      · rw [if_pos c, if_pos c]
      · rw [if_neg c, if_neg c, kept_getD (by omega)]
theorem ring_old {D : Nat} (hD : 1 ≤ D) (b : Int) (F : Nat → Int) (k : Nat) : (ring D b F k)[k % D]? = some (oldV D (kept D b F k)) := by
  rw [ring_at hD b F k k (Nat.le_refl _) (by omega)]
  unfold oldV
  rw [kept_len]
  by_cases c : D ≤ k
  · rw [if_pos c, if_neg (by omega)]
  · rw [if_neg c, if_pos (by omega)]
theorem next_place {D k : Nat} (hD : 1 ≤ D ∧ D ≤ 4096) : Int.tmod (IntKind.i64.wrap (((k % D : Nat) : Int) + 1)) (D : Int) = (((k + 1) % D : Nat) : Int) := by
  have hm : k % D < D := Nat.mod_lt _ (by omega)
  rw [wrap64 (by omega) (by omega)]
  rw [show ((k % D : Nat) : Int) + 1 = ((k % D + 1 : Nat) : Int) from rfl]
  rw [show Int.tmod ((k % D + 1 : Nat) : Int) (D : Int) = (((k % D + 1) % D : Nat) : Int) from rfl, Nat.mod_add_mod]
theorem next_ok {D : Nat} (hD : 1 ≤ D ∧ D ≤ 4096) {b w : Int} (hb : 0 ≤ b ∧ b ≤ 256) (hw : 0 ≤ w ∧ w ≤ 256) (F : Nat → Int) (k : Nat) (hF : Small (F k)) :
    g11 (0, [.i (F k), .i D, .i b, .i w, .n D, .i (k % D : Nat), .l (ring D b F k)]) = some (0, [.i (tellV D b w F k), .i D, .i b, .i w, .n D, .i ((k + 1) % D : Nat), .l (ring D b F (k + 1))]) := by
  have hm : k % D < D := Nat.mod_lt _ (by omega)
  have ho := old_in D b F k
  have hx := ring_old hD.1 b F k
  have p1 := part_in ho hb
  have p2 := part_in ho hw
  have hlen := ring_len D b F k
  have w1 : IntKind.i64.wrap (oldV D (kept D b F k) * b) = oldV D (kept D b F k) * b := wrap64 (by omega) (by omega)
  have w2 : IntKind.i64.wrap (oldV D (kept D b F k) * w) = oldV D (kept D b F k) * w := wrap64 (by omega) (by omega)
  have r1 : g20 (0, [.i (oldV D (kept D b F k) * b), .i 8]) = some (0, [.i (partV (oldV D (kept D b F k)) b)]) := round8 _ (by unfold In64; omega)
  have r2 : g20 (0, [.i (oldV D (kept D b F k) * w), .i 8]) = some (0, [.i (partV (oldV D (kept D b F k)) w)]) := round8 _ (by unfold In64; omega)
  have a1 := add_ok (F k) (partV (oldV D (kept D b F k)) b) hF (by unfold Small; omega)
  have a2 := add_ok (F k) (partV (oldV D (kept D b F k)) w) hF (by unfold Small; omega)
  have e1 : ring D b F (k + 1) = (ring D b F k).set (k % D) (satV (F k + partV (oldV D (kept D b F k)) b)) := rfl
  have e2 : tellV D b w F k = satV (F k + partV (oldV D (kept D b F k)) w) := rfl
  rw [e1, e2]
  generalize oldV D (kept D b F k) = o at *
  simp -implicitDefEqProofs only [g11, g11_0, asI_i, asN_n, asL_l, asE_nil, Bool.cond_decide, if_neg (show ¬ (D : Int) = 0 by omega), if_pos (show (0 : Int) ≤ ((k % D : Nat) : Int) ∧ ((k % D : Nat) : Int) < (D : Int) by omega), Int.toNat_natCast, hx, optK_some, w1, w2, r1, r2, a1, a2, altK_0, sat_ok, if_pos (show k % D < (ring D b F k).length by omega), next_place hD]
/-- The ring is all noughts just where what was kept last is. -/
def zerosR (D : Nat) (b : Int) (F : Nat → Int) (k : Nat) : Bool := (List.range D).all fun j => decide ((ring D b F k).getD j 0 = 0)
def zerosK (D : Nat) (b : Int) (F : Nat → Int) (k : Nat) : Bool := (List.range (min D k)).all fun t => decide ((kept D b F k).getD (k - 1 - t) 0 = 0)
theorem all_place {D k j : Nat} (hj : j < D) : ∃ i, k ≤ i ∧ i < k + D ∧ i % D = j := by
  have hm : k % D < D := Nat.mod_lt _ (by omega)
  by_cases c : k % D ≤ j
  · refine ⟨k + (j - k % D), by omega, by omega, ?_⟩
    have e : k + (j - k % D) = j + D * (k / D) := by have := Nat.div_add_mod k D; omega
    rw [e, Nat.add_mul_mod_self_left, Nat.mod_eq_of_lt hj]
  · refine ⟨k + (j + D - k % D), by omega, by omega, ?_⟩
    have e : k + (j + D - k % D) = j + D * (k / D + 1) := by have := Nat.div_add_mod k D; rw [Nat.mul_add]; omega
    rw [e, Nat.add_mul_mod_self_left, Nat.mod_eq_of_lt hj]
theorem zeros_same {D : Nat} (hD : 1 ≤ D) (b : Int) (F : Nat → Int) (k : Nat) : zerosR D b F k = zerosK D b F k := by
  have getR : ∀ i, k ≤ i → i < k + D → (ring D b F k).getD (i % D) 0 = (if i < D then 0 else (kept D b F k).getD (i - D) 0) := by
    intro i h1 h2
    have := ring_at hD b F k i h1 h2
    simp only [List.getD_eq_getElem?_getD, this, Option.getD_some]
  have key : zerosR D b F k = true ↔ zerosK D b F k = true := by
    unfold zerosR zerosK
    rw [List.all_eq_true, List.all_eq_true]
    constructor
    · intro h t ht
      rw [List.mem_range] at ht
      refine decide_eq_true ?_
      have hm : (k - 1 - t + D) % D < D := Nat.mod_lt _ (by omega)
      have h1 := of_decide_eq_true (h ((k - 1 - t + D) % D) (List.mem_range.2 hm))
      rw [getR (k - 1 - t + D) (by omega) (by omega), if_neg (by omega), show k - 1 - t + D - D = k - 1 - t by omega] at h1
      exact h1
    · intro h j hj
      rw [List.mem_range] at hj
      refine decide_eq_true ?_
      obtain ⟨i, i1, i2, rfl⟩ := all_place (k := k) hj
      rw [getR i i1 i2]
      by_cases c : i < D
      · rw [if_pos c]
      · rw [if_neg c]
        have h1 := of_decide_eq_true (h (k - 1 - (i - D)) (List.mem_range.2 (by omega)))
        rw [show k - 1 - (k - 1 - (i - D)) = i - D by omega] at h1
        exact h1
  exact Bool.eq_iff_iff.2 key
theorem silent_ok {D : Nat} (hD : 1 ≤ D ∧ D ≤ 4096) (b w : Int) (F : Nat → Int) (k : Nat) (p : Int) :
    g13 (0, [.i D, .i b, .i w, .n D, .i p, .l (ring D b F k)]) = some (1, [.b (zerosR D b F k), .i D, .i b, .i w, .n D, .i p, .l (ring D b F k)]) := by
  have hlen := ring_len D b F k
  generalize hR : ring D b F k = R at *
  have hl := loop1_all (f := f13_0) (fun j => [.n D, .i D, .i j, .i D, .i b, .i w, .n D, .i p, .l R]) (fun j => decide (R.getD j 0 = 0)) D (r1 := [.i D, .i b, .i w, .n D, .i p, .l R]) (r2 := [.i D, .i b, .i w, .n D, .i p, .l R]) (fun j hj hp => ?_) (fun j hj hp => ?_) ?_ (by omega)
  · have hL : L13_0 (0, [.n D, .i D, .i 0, .i D, .i b, .i w, .n D, .i p, .l R]) = if (List.range D).all (fun j => decide (R.getD j 0 = 0)) = true then some (0, [.i D, .i b, .i w, .n D, .i p, .l R]) else some (1, [.i D, .i b, .i w, .n D, .i p, .l R]) := hl
    have hz : zerosR D b F k = (List.range D).all (fun j => decide (R.getD j 0 = 0)) := by unfold zerosR; rw [hR]
    rw [hz]
    simp -implicitDefEqProofs only [g13, g13_0, asI_i, asN_n, asL_l, asE_nil, hL]
    cases hc : (List.range D).all (fun j => decide (R.getD j 0 = 0)) with
    | true => rw [if_pos rfl, altK_0]; rfl
    | false => rw [if_neg (by simp), altK_1]; rfl
  · have hx := get_some (l := R) (i := j) (by omega)
    have hp := of_decide_eq_true hp
    have w2 : IntKind.i64.wrap ((j : Int) + 1) = ((j + 1 : Nat) : Int) := wrap_nat (n := j + 1) (by omega)
    simp -implicitDefEqProofs only [f13_0, f13_0_0, asI_i, asN_n, asL_l, asE_nil, Bool.cond_decide, if_pos (show (j : Int) < (D : Int) by omega), if_pos (show (0 : Int) ≤ j ∧ (j : Int) < (D : Int) by omega), Int.toNat_natCast, hx, optK_some, w2]
    rw [if_neg (by omega)]
  · have hx := get_some (l := R) (i := j) (by omega)
    have hp := of_decide_eq_false hp
    simp -implicitDefEqProofs only [f13_0, f13_0_0, asI_i, asN_n, asL_l, asE_nil, Bool.cond_decide, if_pos (show (j : Int) < (D : Int) by omega), if_pos (show (0 : Int) ≤ j ∧ (j : Int) < (D : Int) by omega), Int.toNat_natCast, hx, optK_some]
    rw [if_pos hp]
  · simp -implicitDefEqProofs only [f13_0, f13_0_0, asI_i, asN_n, asL_l, asE_nil, Bool.cond_decide, if_neg (Int.lt_irrefl _)]
theorem new_yes {D : Nat} {b w : Int} (h : RightE D b w) (F : Nat → Int) : g7 (0, [.i D, .i b, .i w]) = some (0, [.i 0, .i D, .i b, .i w, .n D, .i 0, .l (ring D b F 0)]) := by
  have hr := right_ok D b w
  rw [decide_eq_true h] at hr
  unfold RightE at h
  have e : ring D b F 0 = List.replicate D 0 := rfl
  simp -implicitDefEqProofs only [g7, g7_0, asI_i, asB_b, asE_nil, hr, altK_0, Bool.not_true, cond_false, if_true, if_pos h.1, if_pos (show (0 : Int) ≤ D by omega), if_pos (show 8 * (D : Int) ≤ 140737488355328 by omega), if_pos (show (D : Int) ≤ 9223372036854775807 by omega), Int.toNat_natCast, e]
theorem new_no {D b w : Int} (h : ¬ RightE D b w) : g7 (0, [.i D, .i b, .i w]) = some (1, [.i 1]) := by
  have hr := right_ok D b w
  rw [decide_eq_false h] at hr
  simp -implicitDefEqProofs only [g7, g7_0, asI_i, asB_b, asE_nil, hr, altK_0, Bool.not_false, cond_true]
def fewV : List Int → List Int := fewL 150 (fun x => Int.tmod x 1048577)
theorem fewV_len (l : List Int) : (fewV l).length = min 150 l.length := fewL_len _ _ _
theorem fewV_in (l : List Int) (k : Nat) : Small ((fewV l).getD k 0) := by
  unfold Small
  by_cases h : k < (fewV l).length
  · have hx := get_some h
    have hm := List.mem_of_getElem? hx
    unfold fewV fewL at hm
    rw [List.mem_map] at hm
    obtain ⟨x, _, e⟩ := hm
    rw [show (fewV l).getD k 0 = Int.tmod x 1048577 from e.symm]
    have a1 := Int.tmod_lt_of_pos x (show (0 : Int) < 1048577 by omega)
    have a2 : -1048577 < Int.tmod x 1048577 := Int.lt_tmod_of_pos x (by omega)
    omega
  · have : (fewV l).getD k 0 = 0 := by simp [List.getElem?_eq_none (show (fewV l).length ≤ k by omega)]
    omega
end Go.Proofs.Ytmmhmccmbohmoaa
