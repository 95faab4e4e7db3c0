/-
  BitsReads: the loops and the law, of any bytes and any script. Conditions: none.
-/
import Derived.Test.YtkahlinndcnjiaaRdN
namespace Go.Proofs.Ytkahlinndcnjiaa
open Go Go.Sx R
set_option maxRecDepth 100000
set_option linter.unusedVariables false
attribute [local simp] asI_i asB_b asL_l asN_n asS_s asE_nil altK_none altK_0 altK_1 altK_2 altK_3 optK_some optK_none Bool.cond_decide Bool.cond_not Int.toNat_natCast
set_option linter.unusedSimpArgs false
theorem altK_R15 {α : Type} (r : List Leaf) (k0 k1 k2 k3 k4 k5 k6 k7 k8 k9 k10 k11 k12 k13 k14 k15 : List Leaf → α) (ks : List (List Leaf → α)) (z : α) : altK (some (15, r)) (k0 :: k1 :: k2 :: k3 :: k4 :: k5 :: k6 :: k7 :: k8 :: k9 :: k10 :: k11 :: k12 :: k13 :: k14 :: k15 :: ks) z = k15 r := rfl
theorem altK_R16 {α : Type} (r : List Leaf) (k0 k1 k2 k3 k4 k5 k6 k7 k8 k9 k10 k11 k12 k13 k14 k15 k16 : List Leaf → α) (ks : List (List Leaf → α)) (z : α) : altK (some (16, r)) (k0 :: k1 :: k2 :: k3 :: k4 :: k5 :: k6 :: k7 :: k8 :: k9 :: k10 :: k11 :: k12 :: k13 :: k14 :: k15 :: k16 :: ks) z = k16 r := rfl
def S0 (m : Nat) (B h : List Int) (n j at_ : Nat) (e : Int) : Nat × List Leaf := (0, [.n m, .i j, .l B, .l h, .n n, .i at_, .i e, .i e])
def S1 (m : Nat) (B h : List Int) (n j at_ : Nat) (e : Int) (o ln : Nat) (L : List Int) : Nat × List Leaf := (1, [.n m, .i j, .l B, .l h, .n n, .i at_, .i e, .n o, .n ln, .i e, .l L])
def invV (m : Nat) (B h : List Int) (n : Nat) (L : List Int) (j : Nat) (s : Nat × List Leaf) : Prop :=
  (∃ (a : Nat) (e : Int), s = S0 m B h n j a e ∧ a ≤ 8 * n ∧ (e = 0 → a = 8 * n)) ∨
  (∃ (a : Nat) (e : Int) (o ln : Nat), s = S1 m B h n j a e o ln L ∧ a ≤ 8 * n ∧ o + ln ≤ 8 * n ∧ (e = 0 → o = a ∧ o + ln = 8 * n))
set_option maxHeartbeats 8000000 in
theorem vround (B : List Int) (n : Nat) (hB : ∀ x ∈ B, 0 ≤ x ∧ x ≤ 255) (hl : n ≤ B.length) (hn : n ≤ 1000) (L : List Int) (hL : ∀ i, i < 8 * n → L[i]? = some (bt B i)) (m : Nat) (h : List Int) (j : Nat) (hj : j < m) (h40 : j < 40) (hm : m * 2 ≤ h.length) (a : Nat) (e : Int) (o ln : Nat) (ha : a ≤ 8 * n) (ho : o + ln ≤ 8 * n) (he : e = 0 → o = a ∧ o + ln = 8 * n) : ∃ s', f7_1 (S1 m B h n j a e o ln L) = some s' ∧ invV m B h n L (j + 1) s' := by
  have c0 := cT_0 (h := h) (k := j) (by omega)
  have c1 := cT_1 (h := h) (k := j) (by omega)
  have cl := cT_len (h := h) (k := j) (by omega)
  have hle : j * 2 + 2 ≤ h.length := by omega
  have w2 : IntKind.i64.wrap ((j : Int) + 1) = ((j + 1 : Nat) : Int) := wrap_nat (n := j + 1) (by omega)
  have hne : ∀ x : Int, (x ≠ x) = False := fun x => eq_false (fun h => h rfl)
  have hLo : ∀ i, o ≤ i → i < o + ln → L[i]? = some (bt B i) := fun i _ h2 => hL i (by omega)
  generalize h.getD (j * 2) 0 = kd at *
  generalize h.getD (j * 2 + 1) 0 = k at *
  unfold S1
  by_cases k0 : kd = 0
  · by_cases z : eK e k (ln : Int) = 0
    · obtain rfl := eK_zero z
      obtain ⟨rfl, ho2⟩ := he rfl
      obtain ⟨z1, z2, z3⟩ := eK_all z
      obtain ⟨q, rfl⟩ : ∃ q : Nat, k = q := ⟨k.toNat, by omega⟩
      have h1 := get_ok B n hB hl hn o q (by omega) (by omega)
      have h2 := pget_ok L o ln B hLo q (by omega) (by omega)
      have h3 := left_0 B n (o + q) (by omega) hn
      rw [show 8 * n - (o + q) = ln - q by omega] at h3
      refine ⟨S1 m B h n (j + 1) (o + q) 0 (q + o) (ln - q) L, ?_, Or.inr ⟨o + q, 0, q + o, ln - q, rfl, by omega, by omega, fun _ => ⟨by omega, by omega⟩⟩⟩
      unfold S1
      simp -implicitDefEqProofs only [f7_1, f7_1_1, asI_i, asN_n, asL_l, asB_b, asE_nil, Bool.cond_decide, Bool.cond_not, if_pos (show (j : Int) < m by omega), if_pos (show (j : Int) < 40 by omega), if_pos (show (0 : Int) ≤ j ∧ (j : Int) < m by omega), Int.toNat_natCast, if_pos hle, cl, if_true, if_pos (show 0 + 2 ≤ 2 by omega), drop2, List.append_nil, c0, c1, optK_some, altK_0, altK_1, altK_2, altK_3, altK_4, altK_5, altK_6, altK_R7, altK_R8, altK_R9, altK_R10, altK_R11, altK_R12, altK_R13, altK_R14, w2, hne, if_false, err_ok, if_pos k0, h1, h2, h3]
    · have r1 : eK e k ((8 * n - a : Nat) : Int) = eK e k (ln : Int) := by
        by_cases q : e = 0
        · obtain ⟨h1, h2⟩ := he q
          rw [show 8 * n - a = ln by omega]
        · rw [eK_ne q, eK_ne q]
      have h1 := get_bad B n a e k ha hn (by rw [r1]; exact z)
      rw [r1] at h1
      have h2 := pget_bad L o ln e k z
      have h3 := left_e B n a _ z
      refine ⟨S1 m B h n (j + 1) a (eK e k (ln : Int)) o ln L, ?_, Or.inr ⟨a, _, o, ln, rfl, ha, ho, fun q => absurd q z⟩⟩
      unfold S1
      generalize eK e k (ln : Int) = e' at *
      simp -implicitDefEqProofs only [f7_1, f7_1_1, asI_i, asN_n, asL_l, asB_b, asE_nil, Bool.cond_decide, Bool.cond_not, if_pos (show (j : Int) < m by omega), if_pos (show (j : Int) < 40 by omega), if_pos (show (0 : Int) ≤ j ∧ (j : Int) < m by omega), Int.toNat_natCast, if_pos hle, cl, if_true, if_pos (show 0 + 2 ≤ 2 by omega), drop2, List.append_nil, c0, c1, optK_some, altK_0, altK_1, altK_2, altK_3, altK_4, altK_5, altK_6, altK_R7, altK_R8, altK_R9, altK_R10, altK_R11, altK_R12, altK_R13, altK_R14, w2, hne, if_false, err_ok, if_pos k0, h1, h2, if_pos (show e' ≠ 0 from z), h3]
  by_cases k1 : kd = 1
  · by_cases z : eK e k (ln : Int) = 0
    · obtain rfl := eK_zero z
      obtain ⟨rfl, ho2⟩ := he rfl
      obtain ⟨z1, z2, z3⟩ := eK_all z
      obtain ⟨q, rfl⟩ : ∃ q : Nat, k = q := ⟨k.toNat, by omega⟩
      have h1 := sg_ok B n hB hl hn o q (by omega) (by omega)
      have h2 := psg_ok L o ln B hLo q (by omega) (by omega)
      have h3 := left_0 B n (o + q) (by omega) hn
      rw [show 8 * n - (o + q) = ln - q by omega] at h3
      refine ⟨S1 m B h n (j + 1) (o + q) 0 (q + o) (ln - q) L, ?_, Or.inr ⟨o + q, 0, q + o, ln - q, rfl, by omega, by omega, fun _ => ⟨by omega, by omega⟩⟩⟩
      unfold S1
      simp -implicitDefEqProofs only [f7_1, f7_1_1, asI_i, asN_n, asL_l, asB_b, asE_nil, Bool.cond_decide, Bool.cond_not, if_pos (show (j : Int) < m by omega), if_pos (show (j : Int) < 40 by omega), if_pos (show (0 : Int) ≤ j ∧ (j : Int) < m by omega), Int.toNat_natCast, if_pos hle, cl, if_true, if_pos (show 0 + 2 ≤ 2 by omega), drop2, List.append_nil, c0, c1, optK_some, altK_0, altK_1, altK_2, altK_3, altK_4, altK_5, altK_6, altK_R7, altK_R8, altK_R9, altK_R10, altK_R11, altK_R12, altK_R13, altK_R14, w2, hne, if_false, err_ok, if_neg k0, if_pos k1, h1, h2, h3]
    · have r1 : eK e k ((8 * n - a : Nat) : Int) = eK e k (ln : Int) := by
        by_cases q : e = 0
        · obtain ⟨h1, h2⟩ := he q
          rw [show 8 * n - a = ln by omega]
        · rw [eK_ne q, eK_ne q]
      have h1 := sg_bad B n a e k ha hn (by rw [r1]; exact z)
      rw [r1] at h1
      have h2 := psg_bad L o ln e k z
      have h3 := left_e B n a _ z
      refine ⟨S1 m B h n (j + 1) a (eK e k (ln : Int)) o ln L, ?_, Or.inr ⟨a, _, o, ln, rfl, ha, ho, fun q => absurd q z⟩⟩
      unfold S1
      generalize eK e k (ln : Int) = e' at *
      simp -implicitDefEqProofs only [f7_1, f7_1_1, asI_i, asN_n, asL_l, asB_b, asE_nil, Bool.cond_decide, Bool.cond_not, if_pos (show (j : Int) < m by omega), if_pos (show (j : Int) < 40 by omega), if_pos (show (0 : Int) ≤ j ∧ (j : Int) < m by omega), Int.toNat_natCast, if_pos hle, cl, if_true, if_pos (show 0 + 2 ≤ 2 by omega), drop2, List.append_nil, c0, c1, optK_some, altK_0, altK_1, altK_2, altK_3, altK_4, altK_5, altK_6, altK_R7, altK_R8, altK_R9, altK_R10, altK_R11, altK_R12, altK_R13, altK_R14, w2, hne, if_false, err_ok, if_neg k0, if_pos k1, h1, h2, if_pos (show e' ≠ 0 from z), h3]
  by_cases k2 : kd = 2
  · have h1 := fail_ok B n k a e
    by_cases q : e = 0
    · rw [if_pos q] at h1
      obtain ⟨rfl, ho2⟩ := he q
      by_cases z : k ≠ 0
      · have h3 := left_e B n o k z
        refine ⟨S1 m B h n (j + 1) o k o ln L, ?_, Or.inr ⟨o, k, o, ln, rfl, ha, ho, fun r => absurd r z⟩⟩
        unfold S1
        simp -implicitDefEqProofs only [f7_1, f7_1_1, asI_i, asN_n, asL_l, asB_b, asE_nil, Bool.cond_decide, Bool.cond_not, if_pos (show (j : Int) < m by omega), if_pos (show (j : Int) < 40 by omega), if_pos (show (0 : Int) ≤ j ∧ (j : Int) < m by omega), Int.toNat_natCast, if_pos hle, cl, if_true, if_pos (show 0 + 2 ≤ 2 by omega), drop2, List.append_nil, c0, c1, optK_some, altK_0, altK_1, altK_2, altK_3, altK_4, altK_5, altK_6, altK_R7, altK_R8, altK_R9, altK_R10, altK_R11, altK_R12, altK_R13, altK_R14, w2, hne, if_false, err_ok, if_neg k0, if_neg k1, if_pos k2, h1, if_pos q, if_pos z, h3]
      · obtain rfl := Classical.not_not.1 z
        have h3 := left_0 B n o (by omega) hn
        rw [show 8 * n - o = ln by omega] at h3
        refine ⟨S1 m B h n (j + 1) o 0 o ln L, ?_, Or.inr ⟨o, 0, o, ln, rfl, ha, ho, fun _ => ⟨rfl, ho2⟩⟩⟩
        unfold S1
        simp -implicitDefEqProofs only [f7_1, f7_1_1, asI_i, asN_n, asL_l, asB_b, asE_nil, Bool.cond_decide, Bool.cond_not, if_pos (show (j : Int) < m by omega), if_pos (show (j : Int) < 40 by omega), if_pos (show (0 : Int) ≤ j ∧ (j : Int) < m by omega), Int.toNat_natCast, if_pos hle, cl, if_true, if_pos (show 0 + 2 ≤ 2 by omega), drop2, List.append_nil, c0, c1, optK_some, altK_0, altK_1, altK_2, altK_3, altK_4, altK_5, altK_6, altK_R7, altK_R8, altK_R9, altK_R10, altK_R11, altK_R12, altK_R13, altK_R14, w2, hne, if_false, err_ok, if_neg k0, if_neg k1, if_pos k2, h1, if_pos q, if_neg z, h3]
    · rw [if_neg q] at h1
      have h3 := left_e B n a e q
      refine ⟨S1 m B h n (j + 1) a e o ln L, ?_, Or.inr ⟨a, e, o, ln, rfl, ha, ho, he⟩⟩
      unfold S1
      simp -implicitDefEqProofs only [f7_1, f7_1_1, asI_i, asN_n, asL_l, asB_b, asE_nil, Bool.cond_decide, Bool.cond_not, if_pos (show (j : Int) < m by omega), if_pos (show (j : Int) < 40 by omega), if_pos (show (0 : Int) ≤ j ∧ (j : Int) < m by omega), Int.toNat_natCast, if_pos hle, cl, if_true, if_pos (show 0 + 2 ≤ 2 by omega), drop2, List.append_nil, c0, c1, optK_some, altK_0, altK_1, altK_2, altK_3, altK_4, altK_5, altK_6, altK_R7, altK_R8, altK_R9, altK_R10, altK_R11, altK_R12, altK_R13, altK_R14, w2, hne, if_false, err_ok, if_neg k0, if_neg k1, if_pos k2, h1, if_neg q, if_pos (show e ≠ 0 from q), h3]
  · have h2 := pend_ok L o ln B hLo (by omega) e
    by_cases q : e = 0
    · subst q
      obtain ⟨rfl, ho2⟩ := he rfl
      obtain ⟨a', h5, h6, h1⟩ := end_0 B n hB hl hn o ha
      rw [show 8 * n - o = ln by omega] at h6 h1
      rw [if_neg (show ¬ (0 : Int) ≠ 0 by omega)] at h2
      by_cases c : anyK B o ln = true
      · rw [if_pos c] at h1 h2
        have h3 := left_e B n a' 4 (by omega)
        refine ⟨S0 m B h n (j + 1) a' 4, ?_, Or.inl ⟨a', 4, rfl, h5, fun r => by omega⟩⟩
        unfold S0
        simp -implicitDefEqProofs only [f7_1, f7_1_1, asI_i, asN_n, asL_l, asB_b, asE_nil, Bool.cond_decide, Bool.cond_not, if_pos (show (j : Int) < m by omega), if_pos (show (j : Int) < 40 by omega), if_pos (show (0 : Int) ≤ j ∧ (j : Int) < m by omega), Int.toNat_natCast, if_pos hle, cl, if_true, if_pos (show 0 + 2 ≤ 2 by omega), drop2, List.append_nil, c0, c1, optK_some, altK_0, altK_1, altK_2, altK_3, altK_4, altK_5, altK_6, altK_R7, altK_R8, altK_R9, altK_R10, altK_R11, altK_R12, altK_R13, altK_R14, w2, hne, if_false, err_ok, if_neg k0, if_neg k1, if_neg k2, h1, h2, if_pos (show (4 : Int) ≠ 0 by omega), h3]
      · have c' : anyK B o ln = false := by simpa using c
        obtain rfl := h6 c'
        rw [if_neg c] at h1 h2
        have h3 := left_0 B n (8 * n) h5 hn
        rw [Nat.sub_self] at h3
        refine ⟨S0 m B h n (j + 1) (8 * n) 0, ?_, Or.inl ⟨8 * n, 0, rfl, h5, fun _ => rfl⟩⟩
        unfold S0
        simp -implicitDefEqProofs only [f7_1, f7_1_1, asI_i, asN_n, asL_l, asB_b, asE_nil, Bool.cond_decide, Bool.cond_not, if_pos (show (j : Int) < m by omega), if_pos (show (j : Int) < 40 by omega), if_pos (show (0 : Int) ≤ j ∧ (j : Int) < m by omega), Int.toNat_natCast, if_pos hle, cl, if_true, if_pos (show 0 + 2 ≤ 2 by omega), drop2, List.append_nil, c0, c1, optK_some, altK_0, altK_1, altK_2, altK_3, altK_4, altK_5, altK_6, altK_R7, altK_R8, altK_R9, altK_R10, altK_R11, altK_R12, altK_R13, altK_R14, w2, hne, if_false, err_ok, if_neg k0, if_neg k1, if_neg k2, h1, h2, if_neg (show ¬ (0 : Int) ≠ 0 by omega), h3, if_neg (show ¬ ((0 : Nat) : Int) ≠ 0 by omega)]
    · rw [if_pos (show e ≠ 0 from q)] at h2
      have h1 := end_e B n a e q
      have h3 := left_e B n a e q
      refine ⟨S0 m B h n (j + 1) a e, ?_, Or.inl ⟨a, e, rfl, ha, fun r => absurd r q⟩⟩
      unfold S0
      simp -implicitDefEqProofs only [f7_1, f7_1_1, asI_i, asN_n, asL_l, asB_b, asE_nil, Bool.cond_decide, Bool.cond_not, if_pos (show (j : Int) < m by omega), if_pos (show (j : Int) < 40 by omega), if_pos (show (0 : Int) ≤ j ∧ (j : Int) < m by omega), Int.toNat_natCast, if_pos hle, cl, if_true, if_pos (show 0 + 2 ≤ 2 by omega), drop2, List.append_nil, c0, c1, optK_some, altK_0, altK_1, altK_2, altK_3, altK_4, altK_5, altK_6, altK_R7, altK_R8, altK_R9, altK_R10, altK_R11, altK_R12, altK_R13, altK_R14, w2, hne, if_false, err_ok, if_neg k0, if_neg k1, if_neg k2, h1, h2, if_pos (show e ≠ 0 from q), h3]
def muS (s : Nat × List Leaf) : Nat := match s.2 with
  | _ :: .i j :: _ => 41 - j.toNat
  | _ => 0
theorem run_V (B : List Int) (n : Nat) (hB : ∀ x ∈ B, 0 ≤ x ∧ x ≤ 255) (hl : n ≤ B.length) (hn : n ≤ 1000) (L : List Int) (hL : ∀ i, i < 8 * n → L[i]? = some (bt B i)) (m : Nat) (h : List Int) (hm : m * 2 ≤ h.length) (s : Nat × List Leaf) (hs : invV m B h n L 0 s) :
    ∃ q r, L7_1 s = some (q, r) ∧ ((q = 0 ∧ ∃ (a : Nat) (e : Int), r = [.l B, .l h, .n n, .i a, .i e, .i e]) ∨ (q = 2 ∧ ∃ (a : Nat) (e : Int) (o ln : Nat), r = [.l B, .l h, .n n, .i a, .i e, .n o, .n ln, .i e, .l L])) := by
  have main := loopL_ind (m := 12) (f := f7_1) (fun s => ∃ j, j ≤ m ∧ j ≤ 40 ∧ invV m B h n L j s) muS (fun q r => (q = 0 ∧ ∃ (a : Nat) (e : Int), r = [.l B, .l h, .n n, .i a, .i e, .i e]) ∨ (q = 2 ∧ ∃ (a : Nat) (e : Int) (o ln : Nat), r = [.l B, .l h, .n n, .i a, .i e, .n o, .n ln, .i e, .l L])) ?_ s ⟨0, by omega, by omega, hs⟩ ?_
  · unfold L7_1; exact main
  · rintro s ⟨j, h1, h2, hi⟩
    by_cases hj : j < m ∧ j < 40
    · left
      obtain ⟨s', e1, e2⟩ : ∃ s', f7_1 s = some s' ∧ invV m B h n L (j + 1) s' := by
        rcases hi with ⟨a, e, rfl, h3, h4⟩ | ⟨a, e, o, ln, rfl, h3, h4, h5⟩
        · have hr := nround_V B n a hB hl hn h3 m h j hj.1 hj.2 hm e h4
          exact ⟨S0 m B h n (j + 1) a (eN e (h.getD (j * 2) 0) (h.getD (j * 2 + 1) 0)), hr, Or.inl ⟨a, _, rfl, h3, fun q => h4 (eN_zero q)⟩⟩
        · exact vround B n hB hl hn L hL m h j hj.1 hj.2 hm a e o ln h3 h4 h5
      refine ⟨s', e1, ?_, ⟨j + 1, by omega, by omega, e2⟩, ?_⟩
      · rcases e2 with ⟨a, e, rfl, _⟩ | ⟨a, e, o, ln, rfl, _⟩
        · show 0 < 12; omega
        · show 1 < 12; omega
      · have g1 : ∀ t, invV m B h n L (j + 1) t → muS t = 41 - (j + 1) := by
          rintro t (⟨a, e, rfl, _⟩ | ⟨a, e, o, ln, rfl, _⟩)
          · show 41 - Int.toNat ((j + 1 : Nat) : Int) = _; rw [Int.toNat_natCast]
          · show 41 - Int.toNat ((j + 1 : Nat) : Int) = _; rw [Int.toNat_natCast]
        have g2 : muS s = 41 - j := by
          rcases hi with ⟨a, e, rfl, _⟩ | ⟨a, e, o, ln, rfl, _⟩
          · show 41 - Int.toNat (j : Int) = _; rw [Int.toNat_natCast]
          · show 41 - Int.toNat (j : Int) = _; rw [Int.toNat_natCast]
        have g3 := g1 s' e2
        rw [g2, g3]
        omega
    · right
      have hd : ∀ (α : Type) (x y : α), (if (j : Int) < m then (if (j : Int) < 40 then x else y) else y) = y := fun α x y => by
        by_cases c : (j : Int) < m
        · rw [if_pos c, if_neg (by omega)]
        · rw [if_neg c]
      rcases hi with ⟨a, e, rfl, h3, h4⟩ | ⟨a, e, o, ln, rfl, h3, h4, h5⟩
      · refine ⟨0, [.l B, .l h, .n n, .i a, .i e, .i e], ?_, Or.inl ⟨rfl, a, e, rfl⟩⟩
        unfold S0
        simp -implicitDefEqProofs only [f7_1, f7_1_0, asI_i, asN_n, asL_l, asB_b, asE_nil, Bool.cond_decide, Bool.cond_not, hd]
      · refine ⟨2, [.l B, .l h, .n n, .i a, .i e, .n o, .n ln, .i e, .l L], ?_, Or.inr ⟨rfl, a, e, o, ln, rfl⟩⟩
        unfold S1
        simp -implicitDefEqProofs only [f7_1, f7_1_1, asI_i, asN_n, asL_l, asB_b, asE_nil, Bool.cond_decide, Bool.cond_not, hd]
  · rcases hs with ⟨a, e, rfl, _⟩ | ⟨a, e, o, ln, rfl, _⟩
    · show 41 - Int.toNat ((0 : Nat) : Int) < _; omega
    · show 41 - Int.toNat ((0 : Nat) : Int) < _; omega
def eR (h : List Int) : Nat → Int
  | 0 => 0
  | j + 1 => eN (eR h j) (h.getD (j * 2) 0) (h.getD (j * 2 + 1) 0)
theorem run_N (m : Nat) (h : List Int) (hm : m * 2 ≤ h.length) : L7_1 (6, [.n m, .i 0, .l h, .i 0, .i 0, .i 0]) = some (9, [.l h, .i 0, .i (eR h (min m 40)), .i (eR h (min m 40))]) := by
  have main := loopL_run (m := 12) (f := f7_1) (fun j => (6, [.n m, .i j, .l h, .i 0, .i (eR h j), .i (eR h j)])) (min m 40) (j := 9) (r := [.l h, .i 0, .i (eR h (min m 40)), .i (eR h (min m 40))]) (fun j hj => ⟨?_, by show 6 < 12; omega⟩) ?_ (by omega)
  · unfold L7_1; exact main
  · exact nround_N m h j (by omega) (by omega) hm (eR h j)
  · have hd : ∀ (α : Type) (x y : α), (if ((min m 40 : Nat) : Int) < m then (if ((min m 40 : Nat) : Int) < 40 then x else y) else y) = y := fun α x y => by
      by_cases c : ((min m 40 : Nat) : Int) < m
      · rw [if_pos c, if_neg (by omega)]
      · rw [if_neg c]
    simp -implicitDefEqProofs only [f7_1, f7_1_6, asI_i, asN_n, asL_l, asB_b, asE_nil, Bool.cond_decide, Bool.cond_not, hd]
theorem run_U (m : Nat) (h : List Int) (hm : m * 2 ≤ h.length) : L7_1 (9, [.n m, .i 0, .l h, .n 0, .i 0, .i 0, .i 0]) = some (13, [.l h, .n 0, .i 0, .i (eR h (min m 40)), .i (eR h (min m 40))]) := by
  have main := loopL_run (m := 12) (f := f7_1) (fun j => (9, [.n m, .i j, .l h, .n 0, .i 0, .i (eR h j), .i (eR h j)])) (min m 40) (j := 13) (r := [.l h, .n 0, .i 0, .i (eR h (min m 40)), .i (eR h (min m 40))]) (fun j hj => ⟨?_, by show 9 < 12; omega⟩) ?_ (by omega)
  · unfold L7_1; exact main
  · exact nround_U m h j (by omega) (by omega) hm (eR h j)
  · have hd : ∀ (α : Type) (x y : α), (if ((min m 40 : Nat) : Int) < m then (if ((min m 40 : Nat) : Int) < 40 then x else y) else y) = y := fun α x y => by
      by_cases c : ((min m 40 : Nat) : Int) < m
      · rw [if_pos c, if_neg (by omega)]
      · rw [if_neg c]
    simp -implicitDefEqProofs only [f7_1, f7_1_9, asI_i, asN_n, asL_l, asB_b, asE_nil, Bool.cond_decide, Bool.cond_not, hd]
theorem run_0 (B : List Int) (n : Nat) (hB : ∀ x ∈ B, 0 ≤ x ∧ x ≤ 255) (hl : n ≤ B.length) (hz : n = 0) (m : Nat) (h : List Int) (hm : m * 2 ≤ h.length) : L7_1 (0, [.n m, .i 0, .l B, .l h, .n n, .i ((0 : Nat) : Int), .i 0, .i 0]) = some (0, [.l B, .l h, .n n, .i ((0 : Nat) : Int), .i (eR h (min m 40)), .i (eR h (min m 40))]) := by
  have main := loopL_run (m := 12) (f := f7_1) (fun j => (0, [.n m, .i j, .l B, .l h, .n n, .i ((0 : Nat) : Int), .i (eR h j), .i (eR h j)])) (min m 40) (j := 0) (r := [.l B, .l h, .n n, .i ((0 : Nat) : Int), .i (eR h (min m 40)), .i (eR h (min m 40))]) (fun j hj => ⟨?_, by show 0 < 12; omega⟩) ?_ (by omega)
  · unfold L7_1; exact main
  · exact nround_V B n 0 hB hl (by omega) (by omega) m h j (by omega) (by omega) hm (eR h j) (fun _ => by omega)
  · have hd : ∀ (α : Type) (x y : α), (if ((min m 40 : Nat) : Int) < m then (if ((min m 40 : Nat) : Int) < 40 then x else y) else y) = y := fun α x y => by
      by_cases c : ((min m 40 : Nat) : Int) < m
      · rw [if_pos c, if_neg (by omega)]
      · rw [if_neg c]
    simp -implicitDefEqProofs only [f7_1, f7_1_0, asI_i, asN_n, asL_l, asB_b, asE_nil, Bool.cond_decide, Bool.cond_not, hd]
theorem build0 (B : List Int) (n : Nat) (hB : ∀ x ∈ B, 0 ≤ x ∧ x ≤ 255) (hl : n ≤ B.length) (hn : n ≤ 1000) (m : Nat) (h : List Int) : (n = 0 ∧ L7_0 (0, [.n n, .n m, .i ((0 : Nat) : Int), .l B, .l h, .n n, .i 0, .i 0, .i 0]) = some (0, [.n m, .l B, .l h, .n n, .i 0, .i 0, .i 0])) ∨ (0 < n ∧ L7_0 (0, [.n n, .n m, .i ((0 : Nat) : Int), .l B, .l h, .n n, .i 0, .i 0, .i 0]) = some (9, [.n m, .l B, .l h, .n n, .i 0, .i 0, .n (8 * n), .i 0, .l (btL B (8 * n))])) := by
  have w8 : IntKind.i64.wrap (8 * (n : Int)) = ((8 * n : Nat) : Int) := by rw [wrap64 (by omega) (by omega)]; omega
  by_cases c : n = 0
  · refine Or.inl ⟨c, loopL_last (m := 12) (f := f7_0) (j := 0) ?_⟩
    simp -implicitDefEqProofs only [f7_0, f7_0_0, asI_i, asN_n, asL_l, asB_b, asE_nil, Bool.cond_decide, Bool.cond_not, w8, if_neg (show ¬ ((0 : Nat) : Int) < ((8 * n : Nat) : Int) by omega)]
  · refine Or.inr ⟨by omega, ?_⟩
    let S : Nat → Nat × List Leaf := fun j => if j = 0 then (0, [.n n, .n m, .i ((0 : Nat) : Int), .l B, .l h, .n n, .i 0, .i 0, .i 0]) else (9, [.n n, .n m, .i j, .l B, .l h, .n n, .i 0, .i 0, .n j, .i 0, .l (btL B j)])
    have Z : S 0 = (0, [.n n, .n m, .i ((0 : Nat) : Int), .l B, .l h, .n n, .i 0, .i 0, .i 0]) := rfl
    have Sk : ∀ j, j ≠ 0 → S j = (9, [.n n, .n m, .i j, .l B, .l h, .n n, .i 0, .i 0, .n j, .i 0, .l (btL B j)]) := fun j hj => if_neg hj
    have main := loopL_run (m := 12) (f := f7_0) S (8 * n) (j := 9) (r := [.n m, .l B, .l h, .n n, .i 0, .i 0, .n (8 * n), .i 0, .l (btL B (8 * n))]) (fun j hj => ?_) ?_ (by omega)
    · unfold L7_0; exact main
    · have hx : B[j / 8]? = some (B.getD (j / 8) 0) := get_some (by omega)
      have hr := hB _ (List.mem_of_getElem? hx)
      have h1 : Int.tmod (j : Int) 8 = ((j % 8 : Nat) : Int) := by rw [Int.tmod_eq_emod_of_nonneg (by omega)]; omega
      have h2 : IntKind.i64.wrap (Int.tdiv (j : Int) 8) = ((j / 8 : Nat) : Int) := by rw [Int.tdiv_eq_ediv_of_nonneg (by omega), wrap64 (by omega) (by omega)]; omega
      have h3 : IntKind.i64.wrap (7 - ((j % 8 : Nat) : Int)) = ((7 - j % 8 : Nat) : Int) := by rw [wrap64 (by omega) (by omega)]; omega
      have w2 : IntKind.i64.wrap ((j : Int) + 1) = ((j + 1 : Nat) : Int) := wrap_nat (n := j + 1) (by omega)
      have hp := power_ok (7 - j % 8) (by omega)
      have hb := law_bit hr.1 hr.2 (7 - j % 8) (by omega)
      rw [Bool.cond_decide] at hb
      have hpp := pw_pos (7 - j % 8)
      have e : bt B j = B.getD (j / 8) 0 / pw (7 - j % 8) % 2 := rfl
      have hlt : j < 8 * n := hj
      have h7 : (0 : Int) ≤ ((j / 8 : Nat) : Int) ∧ ((j / 8 : Nat) : Int) < n := by omega
      rw [Sk (j + 1) (by omega), btL_succ, e]
      refine ⟨?_, by show 9 < 12; omega⟩
      by_cases c0 : j = 0
      · subst c0
        rw [Z, show btL B 0 = [] from rfl, List.nil_append, Nat.zero_add]
        simp -implicitDefEqProofs only [f7_0, f7_0_0, asI_i, asN_n, asL_l, asB_b, asE_nil, Bool.cond_decide, Bool.cond_not, w8, if_pos (show ((0 : Nat) : Int) < ((8 * n : Nat) : Int) by omega), h1, h2, h3, if_pos h7, Int.toNat_natCast, hx, optK_some, hp, altK_0, if_neg (show ¬ pw (7 - 0 % 8) = 0 by omega), hb, w2]
      · rw [Sk j c0]
        have hlen := btL_len B j
        simp -implicitDefEqProofs only [f7_0, f7_0_9, asI_i, asN_n, asL_l, asB_b, asE_nil, Bool.cond_decide, Bool.cond_not, w8, if_pos (show (j : Int) < ((8 * n : Nat) : Int) by omega), h1, h2, h3, if_pos h7, Int.toNat_natCast, hx, optK_some, hp, altK_0, if_neg (show ¬ pw (7 - j % 8) = 0 by omega), hb, w2, if_pos (show (j + 1) * 1 ≤ 70368744177664 by omega), if_pos (show (btL B j).length = j * 1 by omega)]
    · rw [Sk (8 * n) (by omega)]
      simp -implicitDefEqProofs only [f7_0, f7_0_9, asI_i, asN_n, asL_l, asB_b, asE_nil, Bool.cond_decide, Bool.cond_not, w8, if_neg (Int.lt_irrefl _)]
theorem build1 (B : List Int) (n : Nat) (hB : ∀ x ∈ B, 0 ≤ x ∧ x ≤ 255) (hl : n ≤ B.length) (hn : n ≤ 1000) : (n = 0 ∧ L7_0 (1, [.n n, .i ((0 : Nat) : Int), .l B, .n n, .i 0, .i 0, .i 0]) = some (1, [.l B, .n n, .i 0, .i 0, .i 0])) ∨ (0 < n ∧ L7_0 (1, [.n n, .i ((0 : Nat) : Int), .l B, .n n, .i 0, .i 0, .i 0]) = some (10, [.l B, .n n, .i 0, .i 0, .n (8 * n), .i 0, .l (btL B (8 * n))])) := by
  have w8 : IntKind.i64.wrap (8 * (n : Int)) = ((8 * n : Nat) : Int) := by rw [wrap64 (by omega) (by omega)]; omega
  by_cases c : n = 0
  · refine Or.inl ⟨c, loopL_last (m := 12) (f := f7_0) (j := 1) ?_⟩
    simp -implicitDefEqProofs only [f7_0, f7_0_1, asI_i, asN_n, asL_l, asB_b, asE_nil, Bool.cond_decide, Bool.cond_not, w8, if_neg (show ¬ ((0 : Nat) : Int) < ((8 * n : Nat) : Int) by omega)]
  · refine Or.inr ⟨by omega, ?_⟩
    let S : Nat → Nat × List Leaf := fun j => if j = 0 then (1, [.n n, .i ((0 : Nat) : Int), .l B, .n n, .i 0, .i 0, .i 0]) else (10, [.n n, .i j, .l B, .n n, .i 0, .i 0, .n j, .i 0, .l (btL B j)])
    have Z : S 0 = (1, [.n n, .i ((0 : Nat) : Int), .l B, .n n, .i 0, .i 0, .i 0]) := rfl
    have Sk : ∀ j, j ≠ 0 → S j = (10, [.n n, .i j, .l B, .n n, .i 0, .i 0, .n j, .i 0, .l (btL B j)]) := fun j hj => if_neg hj
    have main := loopL_run (m := 12) (f := f7_0) S (8 * n) (j := 10) (r := [.l B, .n n, .i 0, .i 0, .n (8 * n), .i 0, .l (btL B (8 * n))]) (fun j hj => ?_) ?_ (by omega)
    · unfold L7_0; exact main
    · have hx : B[j / 8]? = some (B.getD (j / 8) 0) := get_some (by omega)
      have hr := hB _ (List.mem_of_getElem? hx)
      have h1 : Int.tmod (j : Int) 8 = ((j % 8 : Nat) : Int) := by rw [Int.tmod_eq_emod_of_nonneg (by omega)]; omega
      have h2 : IntKind.i64.wrap (Int.tdiv (j : Int) 8) = ((j / 8 : Nat) : Int) := by rw [Int.tdiv_eq_ediv_of_nonneg (by omega), wrap64 (by omega) (by omega)]; omega
      have h3 : IntKind.i64.wrap (7 - ((j % 8 : Nat) : Int)) = ((7 - j % 8 : Nat) : Int) := by rw [wrap64 (by omega) (by omega)]; omega
      have w2 : IntKind.i64.wrap ((j : Int) + 1) = ((j + 1 : Nat) : Int) := wrap_nat (n := j + 1) (by omega)
      have hp := power_ok (7 - j % 8) (by omega)
      have hb := law_bit hr.1 hr.2 (7 - j % 8) (by omega)
      rw [Bool.cond_decide] at hb
      have hpp := pw_pos (7 - j % 8)
      have e : bt B j = B.getD (j / 8) 0 / pw (7 - j % 8) % 2 := rfl
      have hlt : j < 8 * n := hj
      have h7 : (0 : Int) ≤ ((j / 8 : Nat) : Int) ∧ ((j / 8 : Nat) : Int) < n := by omega
      rw [Sk (j + 1) (by omega), btL_succ, e]
      refine ⟨?_, by show 10 < 12; omega⟩
      by_cases c0 : j = 0
      · subst c0
        rw [Z, show btL B 0 = [] from rfl, List.nil_append, Nat.zero_add]
        simp -implicitDefEqProofs only [f7_0, f7_0_1, asI_i, asN_n, asL_l, asB_b, asE_nil, Bool.cond_decide, Bool.cond_not, w8, if_pos (show ((0 : Nat) : Int) < ((8 * n : Nat) : Int) by omega), h1, h2, h3, if_pos h7, Int.toNat_natCast, hx, optK_some, hp, altK_0, if_neg (show ¬ pw (7 - 0 % 8) = 0 by omega), hb, w2]
      · rw [Sk j c0]
        have hlen := btL_len B j
        simp -implicitDefEqProofs only [f7_0, f7_0_10, asI_i, asN_n, asL_l, asB_b, asE_nil, Bool.cond_decide, Bool.cond_not, w8, if_pos (show (j : Int) < ((8 * n : Nat) : Int) by omega), h1, h2, h3, if_pos h7, Int.toNat_natCast, hx, optK_some, hp, altK_0, if_neg (show ¬ pw (7 - j % 8) = 0 by omega), hb, w2, if_pos (show (j + 1) * 1 ≤ 70368744177664 by omega), if_pos (show (btL B j).length = j * 1 by omega)]
    · rw [Sk (8 * n) (by omega)]
      simp -implicitDefEqProofs only [f7_0, f7_0_10, asI_i, asN_n, asL_l, asB_b, asE_nil, Bool.cond_decide, Bool.cond_not, w8, if_neg (Int.lt_irrefl _)]
theorem build2 (B : List Int) (n : Nat) (hB : ∀ x ∈ B, 0 ≤ x ∧ x ≤ 255) (hl : n ≤ B.length) (hn : n ≤ 1000) : (n = 0 ∧ L7_0 (2, [.n n, .n 0, .i ((0 : Nat) : Int), .l B, .n n, .i 0, .i 0, .i 0]) = some (2, [.n 0, .l B, .n n, .i 0, .i 0, .i 0])) ∨ (0 < n ∧ L7_0 (2, [.n n, .n 0, .i ((0 : Nat) : Int), .l B, .n n, .i 0, .i 0, .i 0]) = some (11, [.n 0, .l B, .n n, .i 0, .i 0, .n (8 * n), .i 0, .l (btL B (8 * n))])) := by
  have w8 : IntKind.i64.wrap (8 * (n : Int)) = ((8 * n : Nat) : Int) := by rw [wrap64 (by omega) (by omega)]; omega
  by_cases c : n = 0
  · refine Or.inl ⟨c, loopL_last (m := 12) (f := f7_0) (j := 2) ?_⟩
    simp -implicitDefEqProofs only [f7_0, f7_0_2, asI_i, asN_n, asL_l, asB_b, asE_nil, Bool.cond_decide, Bool.cond_not, w8, if_neg (show ¬ ((0 : Nat) : Int) < ((8 * n : Nat) : Int) by omega)]
  · refine Or.inr ⟨by omega, ?_⟩
    let S : Nat → Nat × List Leaf := fun j => if j = 0 then (2, [.n n, .n 0, .i ((0 : Nat) : Int), .l B, .n n, .i 0, .i 0, .i 0]) else (11, [.n n, .n 0, .i j, .l B, .n n, .i 0, .i 0, .n j, .i 0, .l (btL B j)])
    have Z : S 0 = (2, [.n n, .n 0, .i ((0 : Nat) : Int), .l B, .n n, .i 0, .i 0, .i 0]) := rfl
    have Sk : ∀ j, j ≠ 0 → S j = (11, [.n n, .n 0, .i j, .l B, .n n, .i 0, .i 0, .n j, .i 0, .l (btL B j)]) := fun j hj => if_neg hj
    have main := loopL_run (m := 12) (f := f7_0) S (8 * n) (j := 11) (r := [.n 0, .l B, .n n, .i 0, .i 0, .n (8 * n), .i 0, .l (btL B (8 * n))]) (fun j hj => ?_) ?_ (by omega)
    · unfold L7_0; exact main
    · have hx : B[j / 8]? = some (B.getD (j / 8) 0) := get_some (by omega)
      have hr := hB _ (List.mem_of_getElem? hx)
      have h1 : Int.tmod (j : Int) 8 = ((j % 8 : Nat) : Int) := by rw [Int.tmod_eq_emod_of_nonneg (by omega)]; omega
      have h2 : IntKind.i64.wrap (Int.tdiv (j : Int) 8) = ((j / 8 : Nat) : Int) := by rw [Int.tdiv_eq_ediv_of_nonneg (by omega), wrap64 (by omega) (by omega)]; omega
      have h3 : IntKind.i64.wrap (7 - ((j % 8 : Nat) : Int)) = ((7 - j % 8 : Nat) : Int) := by rw [wrap64 (by omega) (by omega)]; omega
      have w2 : IntKind.i64.wrap ((j : Int) + 1) = ((j + 1 : Nat) : Int) := wrap_nat (n := j + 1) (by omega)
      have hp := power_ok (7 - j % 8) (by omega)
      have hb := law_bit hr.1 hr.2 (7 - j % 8) (by omega)
      rw [Bool.cond_decide] at hb
      have hpp := pw_pos (7 - j % 8)
      have e : bt B j = B.getD (j / 8) 0 / pw (7 - j % 8) % 2 := rfl
      have hlt : j < 8 * n := hj
      have h7 : (0 : Int) ≤ ((j / 8 : Nat) : Int) ∧ ((j / 8 : Nat) : Int) < n := by omega
      rw [Sk (j + 1) (by omega), btL_succ, e]
      refine ⟨?_, by show 11 < 12; omega⟩
      by_cases c0 : j = 0
      · subst c0
        rw [Z, show btL B 0 = [] from rfl, List.nil_append, Nat.zero_add]
        simp -implicitDefEqProofs only [f7_0, f7_0_2, asI_i, asN_n, asL_l, asB_b, asE_nil, Bool.cond_decide, Bool.cond_not, w8, if_pos (show ((0 : Nat) : Int) < ((8 * n : Nat) : Int) by omega), h1, h2, h3, if_pos h7, Int.toNat_natCast, hx, optK_some, hp, altK_0, if_neg (show ¬ pw (7 - 0 % 8) = 0 by omega), hb, w2]
      · rw [Sk j c0]
        have hlen := btL_len B j
        simp -implicitDefEqProofs only [f7_0, f7_0_11, asI_i, asN_n, asL_l, asB_b, asE_nil, Bool.cond_decide, Bool.cond_not, w8, if_pos (show (j : Int) < ((8 * n : Nat) : Int) by omega), h1, h2, h3, if_pos h7, Int.toNat_natCast, hx, optK_some, hp, altK_0, if_neg (show ¬ pw (7 - j % 8) = 0 by omega), hb, w2, if_pos (show (j + 1) * 1 ≤ 70368744177664 by omega), if_pos (show (btL B j).length = j * 1 by omega)]
    · rw [Sk (8 * n) (by omega)]
      simp -implicitDefEqProofs only [f7_0, f7_0_11, asI_i, asN_n, asL_l, asB_b, asE_nil, Bool.cond_decide, Bool.cond_not, w8, if_neg (Int.lt_irrefl _)]
set_option maxHeartbeats 4000000 in
theorem lawV0 (B : List Int) (N : Nat) (hB : ∀ x ∈ B, 0 ≤ x ∧ x ≤ 255) (hl : N ≤ B.length) (m : Nat) (h : List Int) (hm : m * 2 ≤ h.length) : g7 (0, [.n N, .n m, .l B, .l h]) = some (0, [.b true, .l B, .l h]) := by
  by_cases c : (200 : Int) < N
  · rcases build0 B 200 hB (by omega) (by omega) m h with ⟨hz, hb⟩ | ⟨hz, hb⟩
    · have h1 := run_0 B 200 hB (by omega) hz m h hm
      have h1' : L7_1 (0, [.n m, .i 0, .l B, .l h, .n 200, .i 0, .i 0, .i 0]) = _ := h1
      have hb' : L7_0 (0, [.n 200, .n m, .i 0, .l B, .l h, .n 200, .i 0, .i 0, .i 0]) = _ := hb
      simp -implicitDefEqProofs only [g7, g7_0, asI_i, asN_n, asL_l, asB_b, asE_nil, Bool.cond_decide, Bool.cond_not, altK_0, altK_1, altK_2, altK_3, altK_4, altK_5, altK_6, altK_R7, altK_R8, altK_R9, altK_R10, altK_R11, altK_R12, altK_R13, altK_R14, altK_R15, altK_R16, g19, g19_0, if_true, awakeL_ok, if_pos c, if_pos (show (0 : Int) ≤ 200 ∧ (200 : Int) ≤ N by omega), hb', h1']
    · obtain ⟨q, r, h1, h2⟩ := run_V B 200 hB (by omega) (by omega) (btL B (8 * 200)) (fun i hi => btL_get B hi) m h hm (S1 m B h 200 0 0 0 0 (8 * 200) (btL B (8 * 200))) (Or.inr ⟨0, 0, 0, 8 * 200, rfl, by omega, by omega, fun _ => ⟨rfl, by omega⟩⟩)
      have h1' : L7_1 (1, [.n m, .i 0, .l B, .l h, .n 200, .i 0, .i 0, .n 0, .n (8 * 200), .i 0, .l (btL B (8 * 200))]) = some (q, r) := h1
      have hb' : L7_0 (0, [.n 200, .n m, .i 0, .l B, .l h, .n 200, .i 0, .i 0, .i 0]) = _ := hb
      generalize btL B (8 * 200) = W at *
      rcases h2 with ⟨rfl, a, e, rfl⟩ | ⟨rfl, a, e, o, ln, rfl⟩
      · simp -implicitDefEqProofs only [g7, g7_0, asI_i, asN_n, asL_l, asB_b, asE_nil, Bool.cond_decide, Bool.cond_not, altK_0, altK_1, altK_2, altK_3, altK_4, altK_5, altK_6, altK_R7, altK_R8, altK_R9, altK_R10, altK_R11, altK_R12, altK_R13, altK_R14, altK_R15, altK_R16, g19, g19_0, if_true, awakeL_ok, if_pos c, if_pos (show (0 : Int) ≤ 200 ∧ (200 : Int) ≤ N by omega), hb', h1']
      · simp -implicitDefEqProofs only [g7, g7_0, asI_i, asN_n, asL_l, asB_b, asE_nil, Bool.cond_decide, Bool.cond_not, altK_0, altK_1, altK_2, altK_3, altK_4, altK_5, altK_6, altK_R7, altK_R8, altK_R9, altK_R10, altK_R11, altK_R12, altK_R13, altK_R14, altK_R15, altK_R16, g19, g19_0, if_true, awakeL_ok, if_pos c, if_pos (show (0 : Int) ≤ 200 ∧ (200 : Int) ≤ N by omega), hb', h1']
  · rcases build0 B N hB (by omega) (by omega) m h with ⟨hz, hb⟩ | ⟨hz, hb⟩
    · have h1 := run_0 B N hB (by omega) hz m h hm
      have h1' : L7_1 (0, [.n m, .i 0, .l B, .l h, .n N, .i 0, .i 0, .i 0]) = _ := h1
      have hb' : L7_0 (0, [.n N, .n m, .i 0, .l B, .l h, .n N, .i 0, .i 0, .i 0]) = _ := hb
      simp -implicitDefEqProofs only [g7, g7_0, asI_i, asN_n, asL_l, asB_b, asE_nil, Bool.cond_decide, Bool.cond_not, altK_0, altK_1, altK_2, altK_3, altK_4, altK_5, altK_6, altK_R7, altK_R8, altK_R9, altK_R10, altK_R11, altK_R12, altK_R13, altK_R14, altK_R15, altK_R16, g19, g19_0, if_true, awakeL_ok, if_neg c, hb', h1']
    · obtain ⟨q, r, h1, h2⟩ := run_V B N hB (by omega) (by omega) (btL B (8 * N)) (fun i hi => btL_get B hi) m h hm (S1 m B h N 0 0 0 0 (8 * N) (btL B (8 * N))) (Or.inr ⟨0, 0, 0, 8 * N, rfl, by omega, by omega, fun _ => ⟨rfl, by omega⟩⟩)
      have h1' : L7_1 (1, [.n m, .i 0, .l B, .l h, .n N, .i 0, .i 0, .n 0, .n (8 * N), .i 0, .l (btL B (8 * N))]) = some (q, r) := h1
      have hb' : L7_0 (0, [.n N, .n m, .i 0, .l B, .l h, .n N, .i 0, .i 0, .i 0]) = _ := hb
      generalize btL B (8 * N) = W at *
      rcases h2 with ⟨rfl, a, e, rfl⟩ | ⟨rfl, a, e, o, ln, rfl⟩
      · simp -implicitDefEqProofs only [g7, g7_0, asI_i, asN_n, asL_l, asB_b, asE_nil, Bool.cond_decide, Bool.cond_not, altK_0, altK_1, altK_2, altK_3, altK_4, altK_5, altK_6, altK_R7, altK_R8, altK_R9, altK_R10, altK_R11, altK_R12, altK_R13, altK_R14, altK_R15, altK_R16, g19, g19_0, if_true, awakeL_ok, if_neg c, hb', h1']
      · simp -implicitDefEqProofs only [g7, g7_0, asI_i, asN_n, asL_l, asB_b, asE_nil, Bool.cond_decide, Bool.cond_not, altK_0, altK_1, altK_2, altK_3, altK_4, altK_5, altK_6, altK_R7, altK_R8, altK_R9, altK_R10, altK_R11, altK_R12, altK_R13, altK_R14, altK_R15, altK_R16, g19, g19_0, if_true, awakeL_ok, if_neg c, hb', h1']
set_option maxHeartbeats 4000000 in
theorem lawV1 (B : List Int) (N : Nat) (hB : ∀ x ∈ B, 0 ≤ x ∧ x ≤ 255) (hl : N ≤ B.length) : g7 (1, [.n N, .l B]) = some (1, [.b true, .l B]) := by
  by_cases c : (200 : Int) < N
  · rcases build1 B 200 hB (by omega) (by omega) with ⟨hz, hb⟩ | ⟨hz, hb⟩
    · have hb' : L7_0 (1, [.n 200, .i 0, .l B, .n 200, .i 0, .i 0, .i 0]) = _ := hb
      have h1 : L7_1 (2, [.i 0, .l B, .n 200, .i 0, .i 0, .i 0]) = some (5, [.l B, .n 200, .i 0, .i 0, .i 0]) := loopL_last (m := 12) (f := f7_1) (j := 5) (by simp -implicitDefEqProofs only [f7_1, f7_1_2, asI_i, asN_n, asL_l, asB_b, asE_nil, Bool.cond_decide, Bool.cond_not, if_neg (Int.lt_irrefl _), if_neg (show ¬ (0 : Int) < ((0 : Nat) : Int) by omega)])
      simp -implicitDefEqProofs only [g7, g7_1, asI_i, asN_n, asL_l, asB_b, asE_nil, Bool.cond_decide, Bool.cond_not, altK_0, altK_1, altK_2, altK_3, altK_4, altK_5, altK_6, altK_R7, altK_R8, altK_R9, altK_R10, altK_R11, altK_R12, altK_R13, altK_R14, altK_R15, altK_R16, g19, g19_0, if_true, awakeL_ok, if_pos c, if_pos (show (0 : Int) ≤ 200 ∧ (200 : Int) ≤ N by omega), hb', h1]
    · have hb' : L7_0 (1, [.n 200, .i 0, .l B, .n 200, .i 0, .i 0, .i 0]) = _ := hb
      generalize btL B (8 * 200) = W at *
      have h1 : L7_1 (3, [.i 0, .l B, .n 200, .i 0, .i 0, .n (8 * 200), .i 0, .l W]) = some (6, [.l B, .n 200, .i 0, .i 0, .n (8 * 200), .i 0, .l W]) := loopL_last (m := 12) (f := f7_1) (j := 6) (by simp -implicitDefEqProofs only [f7_1, f7_1_3, asI_i, asN_n, asL_l, asB_b, asE_nil, Bool.cond_decide, Bool.cond_not, if_neg (Int.lt_irrefl _), if_neg (show ¬ (0 : Int) < ((0 : Nat) : Int) by omega)])
      simp -implicitDefEqProofs only [g7, g7_1, asI_i, asN_n, asL_l, asB_b, asE_nil, Bool.cond_decide, Bool.cond_not, altK_0, altK_1, altK_2, altK_3, altK_4, altK_5, altK_6, altK_R7, altK_R8, altK_R9, altK_R10, altK_R11, altK_R12, altK_R13, altK_R14, altK_R15, altK_R16, g19, g19_0, if_true, awakeL_ok, if_pos c, if_pos (show (0 : Int) ≤ 200 ∧ (200 : Int) ≤ N by omega), hb', h1]
  · rcases build1 B N hB (by omega) (by omega) with ⟨hz, hb⟩ | ⟨hz, hb⟩
    · have hb' : L7_0 (1, [.n N, .i 0, .l B, .n N, .i 0, .i 0, .i 0]) = _ := hb
      have h1 : L7_1 (2, [.i 0, .l B, .n N, .i 0, .i 0, .i 0]) = some (5, [.l B, .n N, .i 0, .i 0, .i 0]) := loopL_last (m := 12) (f := f7_1) (j := 5) (by simp -implicitDefEqProofs only [f7_1, f7_1_2, asI_i, asN_n, asL_l, asB_b, asE_nil, Bool.cond_decide, Bool.cond_not, if_neg (Int.lt_irrefl _), if_neg (show ¬ (0 : Int) < ((0 : Nat) : Int) by omega)])
      simp -implicitDefEqProofs only [g7, g7_1, asI_i, asN_n, asL_l, asB_b, asE_nil, Bool.cond_decide, Bool.cond_not, altK_0, altK_1, altK_2, altK_3, altK_4, altK_5, altK_6, altK_R7, altK_R8, altK_R9, altK_R10, altK_R11, altK_R12, altK_R13, altK_R14, altK_R15, altK_R16, g19, g19_0, if_true, awakeL_ok, if_neg c, hb', h1]
    · have hb' : L7_0 (1, [.n N, .i 0, .l B, .n N, .i 0, .i 0, .i 0]) = _ := hb
      generalize btL B (8 * N) = W at *
      have h1 : L7_1 (3, [.i 0, .l B, .n N, .i 0, .i 0, .n (8 * N), .i 0, .l W]) = some (6, [.l B, .n N, .i 0, .i 0, .n (8 * N), .i 0, .l W]) := loopL_last (m := 12) (f := f7_1) (j := 6) (by simp -implicitDefEqProofs only [f7_1, f7_1_3, asI_i, asN_n, asL_l, asB_b, asE_nil, Bool.cond_decide, Bool.cond_not, if_neg (Int.lt_irrefl _), if_neg (show ¬ (0 : Int) < ((0 : Nat) : Int) by omega)])
      simp -implicitDefEqProofs only [g7, g7_1, asI_i, asN_n, asL_l, asB_b, asE_nil, Bool.cond_decide, Bool.cond_not, altK_0, altK_1, altK_2, altK_3, altK_4, altK_5, altK_6, altK_R7, altK_R8, altK_R9, altK_R10, altK_R11, altK_R12, altK_R13, altK_R14, altK_R15, altK_R16, g19, g19_0, if_true, awakeL_ok, if_neg c, hb', h1]
set_option maxHeartbeats 4000000 in
theorem lawV2 (B : List Int) (N : Nat) (hB : ∀ x ∈ B, 0 ≤ x ∧ x ≤ 255) (hl : N ≤ B.length) : g7 (2, [.n N, .n 0, .l B]) = some (2, [.b true, .l B]) := by
  by_cases c : (200 : Int) < N
  · rcases build2 B 200 hB (by omega) (by omega) with ⟨hz, hb⟩ | ⟨hz, hb⟩
    · have hb' : L7_0 (2, [.n 200, .n 0, .i 0, .l B, .n 200, .i 0, .i 0, .i 0]) = _ := hb
      have h1 : L7_1 (4, [.n 0, .i 0, .l B, .n 200, .i 0, .i 0, .i 0]) = some (7, [.l B, .n 200, .i 0, .i 0, .i 0]) := loopL_last (m := 12) (f := f7_1) (j := 7) (by simp -implicitDefEqProofs only [f7_1, f7_1_4, asI_i, asN_n, asL_l, asB_b, asE_nil, Bool.cond_decide, Bool.cond_not, if_neg (Int.lt_irrefl _), if_neg (show ¬ (0 : Int) < ((0 : Nat) : Int) by omega)])
      simp -implicitDefEqProofs only [g7, g7_2, asI_i, asN_n, asL_l, asB_b, asE_nil, Bool.cond_decide, Bool.cond_not, altK_0, altK_1, altK_2, altK_3, altK_4, altK_5, altK_6, altK_R7, altK_R8, altK_R9, altK_R10, altK_R11, altK_R12, altK_R13, altK_R14, altK_R15, altK_R16, g19, g19_0, if_true, awakeL_ok, if_pos c, if_pos (show (0 : Int) ≤ 200 ∧ (200 : Int) ≤ N by omega), hb', h1]
    · have hb' : L7_0 (2, [.n 200, .n 0, .i 0, .l B, .n 200, .i 0, .i 0, .i 0]) = _ := hb
      generalize btL B (8 * 200) = W at *
      have h1 : L7_1 (5, [.n 0, .i 0, .l B, .n 200, .i 0, .i 0, .n (8 * 200), .i 0, .l W]) = some (8, [.l B, .n 200, .i 0, .i 0, .n (8 * 200), .i 0, .l W]) := loopL_last (m := 12) (f := f7_1) (j := 8) (by simp -implicitDefEqProofs only [f7_1, f7_1_5, asI_i, asN_n, asL_l, asB_b, asE_nil, Bool.cond_decide, Bool.cond_not, if_neg (Int.lt_irrefl _), if_neg (show ¬ (0 : Int) < ((0 : Nat) : Int) by omega)])
      simp -implicitDefEqProofs only [g7, g7_2, asI_i, asN_n, asL_l, asB_b, asE_nil, Bool.cond_decide, Bool.cond_not, altK_0, altK_1, altK_2, altK_3, altK_4, altK_5, altK_6, altK_R7, altK_R8, altK_R9, altK_R10, altK_R11, altK_R12, altK_R13, altK_R14, altK_R15, altK_R16, g19, g19_0, if_true, awakeL_ok, if_pos c, if_pos (show (0 : Int) ≤ 200 ∧ (200 : Int) ≤ N by omega), hb', h1]
  · rcases build2 B N hB (by omega) (by omega) with ⟨hz, hb⟩ | ⟨hz, hb⟩
    · have hb' : L7_0 (2, [.n N, .n 0, .i 0, .l B, .n N, .i 0, .i 0, .i 0]) = _ := hb
      have h1 : L7_1 (4, [.n 0, .i 0, .l B, .n N, .i 0, .i 0, .i 0]) = some (7, [.l B, .n N, .i 0, .i 0, .i 0]) := loopL_last (m := 12) (f := f7_1) (j := 7) (by simp -implicitDefEqProofs only [f7_1, f7_1_4, asI_i, asN_n, asL_l, asB_b, asE_nil, Bool.cond_decide, Bool.cond_not, if_neg (Int.lt_irrefl _), if_neg (show ¬ (0 : Int) < ((0 : Nat) : Int) by omega)])
      simp -implicitDefEqProofs only [g7, g7_2, asI_i, asN_n, asL_l, asB_b, asE_nil, Bool.cond_decide, Bool.cond_not, altK_0, altK_1, altK_2, altK_3, altK_4, altK_5, altK_6, altK_R7, altK_R8, altK_R9, altK_R10, altK_R11, altK_R12, altK_R13, altK_R14, altK_R15, altK_R16, g19, g19_0, if_true, awakeL_ok, if_neg c, hb', h1]
    · have hb' : L7_0 (2, [.n N, .n 0, .i 0, .l B, .n N, .i 0, .i 0, .i 0]) = _ := hb
      generalize btL B (8 * N) = W at *
      have h1 : L7_1 (5, [.n 0, .i 0, .l B, .n N, .i 0, .i 0, .n (8 * N), .i 0, .l W]) = some (8, [.l B, .n N, .i 0, .i 0, .n (8 * N), .i 0, .l W]) := loopL_last (m := 12) (f := f7_1) (j := 8) (by simp -implicitDefEqProofs only [f7_1, f7_1_5, asI_i, asN_n, asL_l, asB_b, asE_nil, Bool.cond_decide, Bool.cond_not, if_neg (Int.lt_irrefl _), if_neg (show ¬ (0 : Int) < ((0 : Nat) : Int) by omega)])
      simp -implicitDefEqProofs only [g7, g7_2, asI_i, asN_n, asL_l, asB_b, asE_nil, Bool.cond_decide, Bool.cond_not, altK_0, altK_1, altK_2, altK_3, altK_4, altK_5, altK_6, altK_R7, altK_R8, altK_R9, altK_R10, altK_R11, altK_R12, altK_R13, altK_R14, altK_R15, altK_R16, g19, g19_0, if_true, awakeL_ok, if_neg c, hb', h1]
theorem lawN0 (m : Nat) (h : List Int) (hm : m * 2 ≤ h.length) : g7 (3, [.n m, .l h]) = some (3, [.b true, .l h]) := by
  have w8 : IntKind.i64.wrap (8 * ((0 : Nat) : Int)) = ((0 : Nat) : Int) := rfl
  have hb : L7_0 (3, [.n m, .i 0, .l h, .i 0, .i 0, .i 0]) = some (3, [.n m, .l h, .i 0, .i 0, .i 0]) := loopL_last (m := 12) (f := f7_0) (j := 3) (by simp -implicitDefEqProofs only [f7_0, f7_0_3, asI_i, asN_n, asL_l, asB_b, asE_nil, Bool.cond_decide, Bool.cond_not, if_neg (Int.lt_irrefl _), if_neg (show ¬ (0 : Int) < ((0 : Nat) : Int) by omega), w8])
  have h1 := run_N m h hm
  simp -implicitDefEqProofs only [g7, g7_3, asI_i, asN_n, asL_l, asB_b, asE_nil, Bool.cond_decide, Bool.cond_not, altK_0, altK_1, altK_2, altK_3, altK_4, altK_5, altK_6, altK_R7, altK_R8, altK_R9, altK_R10, altK_R11, altK_R12, altK_R13, altK_R14, altK_R15, altK_R16, g19, g19_1, if_true, awakeL_ok, if_neg (show ¬ (200 : Int) < ((0 : Nat) : Int) by omega), hb, h1]
theorem lawN1 : g7 (4, []) = some (4, [.b true]) := by
  have w8 : IntKind.i64.wrap (8 * ((0 : Nat) : Int)) = ((0 : Nat) : Int) := rfl
  have hb : L7_0 (4, [.i 0, .i 0, .i 0, .i 0]) = some (4, [.i 0, .i 0, .i 0]) := loopL_last (m := 12) (f := f7_0) (j := 4) (by simp -implicitDefEqProofs only [f7_0, f7_0_4, asI_i, asN_n, asL_l, asB_b, asE_nil, Bool.cond_decide, Bool.cond_not, if_neg (Int.lt_irrefl _), if_neg (show ¬ (0 : Int) < ((0 : Nat) : Int) by omega), w8])
  have h1 : L7_1 (7, [.i 0, .i 0, .i 0, .i 0]) = some (11, [.i 0, .i 0, .i 0]) := loopL_last (m := 12) (f := f7_1) (j := 11) (by simp -implicitDefEqProofs only [f7_1, f7_1_7, asI_i, asN_n, asL_l, asB_b, asE_nil, Bool.cond_decide, Bool.cond_not, if_neg (Int.lt_irrefl _), if_neg (show ¬ (0 : Int) < ((0 : Nat) : Int) by omega)])
  simp -implicitDefEqProofs only [g7, g7_4, asI_i, asN_n, asL_l, asB_b, asE_nil, Bool.cond_decide, Bool.cond_not, altK_0, altK_1, altK_2, altK_3, altK_4, altK_5, altK_6, altK_R7, altK_R8, altK_R9, altK_R10, altK_R11, altK_R12, altK_R13, altK_R14, altK_R15, altK_R16, g19, g19_1, if_true, awakeL_ok, if_neg (show ¬ (200 : Int) < ((0 : Nat) : Int) by omega), hb, h1]
theorem lawN2 : g7 (5, [.n 0]) = some (5, [.b true]) := by
  have w8 : IntKind.i64.wrap (8 * ((0 : Nat) : Int)) = ((0 : Nat) : Int) := rfl
  have hb : L7_0 (5, [.n 0, .i 0, .i 0, .i 0, .i 0]) = some (5, [.n 0, .i 0, .i 0, .i 0]) := loopL_last (m := 12) (f := f7_0) (j := 5) (by simp -implicitDefEqProofs only [f7_0, f7_0_5, asI_i, asN_n, asL_l, asB_b, asE_nil, Bool.cond_decide, Bool.cond_not, if_neg (Int.lt_irrefl _), if_neg (show ¬ (0 : Int) < ((0 : Nat) : Int) by omega), w8])
  have h1 : L7_1 (8, [.n 0, .i 0, .i 0, .i 0, .i 0]) = some (12, [.i 0, .i 0, .i 0]) := loopL_last (m := 12) (f := f7_1) (j := 12) (by simp -implicitDefEqProofs only [f7_1, f7_1_8, asI_i, asN_n, asL_l, asB_b, asE_nil, Bool.cond_decide, Bool.cond_not, if_neg (Int.lt_irrefl _), if_neg (show ¬ (0 : Int) < ((0 : Nat) : Int) by omega)])
  simp -implicitDefEqProofs only [g7, g7_5, asI_i, asN_n, asL_l, asB_b, asE_nil, Bool.cond_decide, Bool.cond_not, altK_0, altK_1, altK_2, altK_3, altK_4, altK_5, altK_6, altK_R7, altK_R8, altK_R9, altK_R10, altK_R11, altK_R12, altK_R13, altK_R14, altK_R15, altK_R16, g19, g19_1, if_true, awakeL_ok, if_neg (show ¬ (200 : Int) < ((0 : Nat) : Int) by omega), hb, h1]
theorem lawU0 (m : Nat) (h : List Int) (hm : m * 2 ≤ h.length) : g7 (6, [.n 0, .n m, .l h]) = some (6, [.b true, .l h]) := by
  have w8 : IntKind.i64.wrap (8 * ((0 : Nat) : Int)) = ((0 : Nat) : Int) := rfl
  have hb : L7_0 (6, [.n 0, .n m, .i 0, .l h, .n 0, .i 0, .i 0, .i 0]) = some (6, [.n m, .l h, .n 0, .i 0, .i 0, .i 0]) := loopL_last (m := 12) (f := f7_0) (j := 6) (by simp -implicitDefEqProofs only [f7_0, f7_0_6, asI_i, asN_n, asL_l, asB_b, asE_nil, Bool.cond_decide, Bool.cond_not, if_neg (Int.lt_irrefl _), if_neg (show ¬ (0 : Int) < ((0 : Nat) : Int) by omega), w8])
  have h1 := run_U m h hm
  simp -implicitDefEqProofs only [g7, g7_6, asI_i, asN_n, asL_l, asB_b, asE_nil, Bool.cond_decide, Bool.cond_not, altK_0, altK_1, altK_2, altK_3, altK_4, altK_5, altK_6, altK_R7, altK_R8, altK_R9, altK_R10, altK_R11, altK_R12, altK_R13, altK_R14, altK_R15, altK_R16, g19, g19_2, if_true, awakeL_ok, if_neg (show ¬ (200 : Int) < ((0 : Nat) : Int) by omega), hb, h1]
theorem lawU1 : g7 (7, [.n 0]) = some (5, [.b true]) := by
  have w8 : IntKind.i64.wrap (8 * ((0 : Nat) : Int)) = ((0 : Nat) : Int) := rfl
  have hb : L7_0 (7, [.n 0, .i 0, .n 0, .i 0, .i 0, .i 0]) = some (7, [.n 0, .i 0, .i 0, .i 0]) := loopL_last (m := 12) (f := f7_0) (j := 7) (by simp -implicitDefEqProofs only [f7_0, f7_0_7, asI_i, asN_n, asL_l, asB_b, asE_nil, Bool.cond_decide, Bool.cond_not, if_neg (Int.lt_irrefl _), if_neg (show ¬ (0 : Int) < ((0 : Nat) : Int) by omega), w8])
  have h1 : L7_1 (10, [.i 0, .n 0, .i 0, .i 0, .i 0]) = some (15, [.n 0, .i 0, .i 0, .i 0]) := loopL_last (m := 12) (f := f7_1) (j := 15) (by simp -implicitDefEqProofs only [f7_1, f7_1_10, asI_i, asN_n, asL_l, asB_b, asE_nil, Bool.cond_decide, Bool.cond_not, if_neg (Int.lt_irrefl _), if_neg (show ¬ (0 : Int) < ((0 : Nat) : Int) by omega)])
  simp -implicitDefEqProofs only [g7, g7_7, asI_i, asN_n, asL_l, asB_b, asE_nil, Bool.cond_decide, Bool.cond_not, altK_0, altK_1, altK_2, altK_3, altK_4, altK_5, altK_6, altK_R7, altK_R8, altK_R9, altK_R10, altK_R11, altK_R12, altK_R13, altK_R14, altK_R15, altK_R16, g19, g19_2, if_true, awakeL_ok, if_neg (show ¬ (200 : Int) < ((0 : Nat) : Int) by omega), hb, h1]
theorem lawU2 : g7 (8, [.n 0, .n 0]) = some (7, [.b true]) := by
  have w8 : IntKind.i64.wrap (8 * ((0 : Nat) : Int)) = ((0 : Nat) : Int) := rfl
  have hb : L7_0 (8, [.n 0, .n 0, .i 0, .n 0, .i 0, .i 0, .i 0]) = some (8, [.n 0, .n 0, .i 0, .i 0, .i 0]) := loopL_last (m := 12) (f := f7_0) (j := 8) (by simp -implicitDefEqProofs only [f7_0, f7_0_8, asI_i, asN_n, asL_l, asB_b, asE_nil, Bool.cond_decide, Bool.cond_not, if_neg (Int.lt_irrefl _), if_neg (show ¬ (0 : Int) < ((0 : Nat) : Int) by omega), w8])
  have h1 : L7_1 (11, [.n 0, .i 0, .n 0, .i 0, .i 0, .i 0]) = some (16, [.n 0, .i 0, .i 0, .i 0]) := loopL_last (m := 12) (f := f7_1) (j := 16) (by simp -implicitDefEqProofs only [f7_1, f7_1_11, asI_i, asN_n, asL_l, asB_b, asE_nil, Bool.cond_decide, Bool.cond_not, if_neg (Int.lt_irrefl _), if_neg (show ¬ (0 : Int) < ((0 : Nat) : Int) by omega)])
  simp -implicitDefEqProofs only [g7, g7_8, asI_i, asN_n, asL_l, asB_b, asE_nil, Bool.cond_decide, Bool.cond_not, altK_0, altK_1, altK_2, altK_3, altK_4, altK_5, altK_6, altK_R7, altK_R8, altK_R9, altK_R10, altK_R11, altK_R12, altK_R13, altK_R14, altK_R15, altK_R16, g19, g19_2, if_true, awakeL_ok, if_neg (show ¬ (200 : Int) < ((0 : Nat) : Int) by omega), hb, h1]
theorem evV0 (B : List Int) (N : Nat) (hB : ∀ x ∈ B, (Lit.int .u8 x).wf = true) (hl : B.length = N * 1) (m : Nat) (h : List Int) (hm : h.length = m * 2) : ∃ d, evF tab d 7 [.slice 0 0 N 1, .slice 1 0 m 2] [⟨false, .ints .u8 B⟩, ⟨false, .ints .i64 h⟩] = some (.bool true, [⟨false, .ints .u8 B⟩, ⟨false, .ints .i64 h⟩], []) :=
  ⟨_, (ok7 0).ret (i := 0) (ls := [.n N, .n m, .l B, .l h]) (j := 0) (r := [.b true, .l B, .l h]) (lawV0 B N (fun x hx => wf8 (hB x hx)) (by omega) m h (by omega)) rfl rfl rfl rfl⟩
theorem evV1 (B : List Int) (N : Nat) (hB : ∀ x ∈ B, (Lit.int .u8 x).wf = true) (hl : B.length = N * 1) : ∃ d, evF tab d 7 [.slice 0 0 N 1, .nils] [⟨false, .ints .u8 B⟩] = some (.bool true, [⟨false, .ints .u8 B⟩], []) :=
  ⟨_, (ok7 0).ret (i := 1) (ls := [.n N, .l B]) (j := 1) (r := [.b true, .l B]) (lawV1 B N (fun x hx => wf8 (hB x hx)) (by omega) ) rfl rfl rfl rfl⟩
theorem evV2 (B : List Int) (N : Nat) (hB : ∀ x ∈ B, (Lit.int .u8 x).wf = true) (hl : B.length = N * 1) : ∃ d, evF tab d 7 [.slice 0 0 N 1, .slice 1 0 0 2] [⟨false, .ints .u8 B⟩, ⟨true, .unk⟩] = some (.bool true, [⟨false, .ints .u8 B⟩, ⟨true, .unk⟩], []) :=
  ⟨_, (ok7 0).ret (i := 2) (ls := [.n N, .n 0, .l B]) (j := 2) (r := [.b true, .l B]) (lawV2 B N (fun x hx => wf8 (hB x hx)) (by omega) ) rfl rfl rfl rfl⟩
theorem evN0 (m : Nat) (h : List Int) (hm : h.length = m * 2) : ∃ d, evF tab d 7 [.nils, .slice 0 0 m 2] [⟨false, .ints .i64 h⟩] = some (.bool true, [⟨false, .ints .i64 h⟩], []) :=
  ⟨_, (ok7 0).ret (i := 3) (ls := [.n m, .l h]) (j := 3) (r := [.b true, .l h]) (lawN0 m h (by omega)) rfl rfl rfl rfl⟩
theorem evN1 : ∃ d, evF tab d 7 [.nils, .nils] [] = some (.bool true, [], []) :=
  ⟨_, (ok7 0).ret (i := 4) (ls := []) (j := 4) (r := [.b true]) (lawN1 ) rfl rfl rfl rfl⟩
theorem evN2 : ∃ d, evF tab d 7 [.nils, .slice 0 0 0 2] [⟨true, .unk⟩] = some (.bool true, [⟨true, .unk⟩], []) :=
  ⟨_, (ok7 0).ret (i := 5) (ls := [.n 0]) (j := 5) (r := [.b true]) (lawN2 ) rfl rfl rfl rfl⟩
theorem evU0 (m : Nat) (h : List Int) (hm : h.length = m * 2) : ∃ d, evF tab d 7 [.slice 0 0 0 1, .slice 1 0 m 2] [⟨true, .unk⟩, ⟨false, .ints .i64 h⟩] = some (.bool true, [⟨true, .unk⟩, ⟨false, .ints .i64 h⟩], []) :=
  ⟨_, (ok7 0).ret (i := 6) (ls := [.n 0, .n m, .l h]) (j := 6) (r := [.b true, .l h]) (lawU0 m h (by omega)) rfl rfl rfl rfl⟩
theorem evU1 : ∃ d, evF tab d 7 [.slice 0 0 0 1, .nils] [⟨true, .unk⟩] = some (.bool true, [⟨true, .unk⟩], []) :=
  ⟨_, (ok7 0).ret (i := 7) (ls := [.n 0]) (j := 5) (r := [.b true]) (lawU1 ) rfl rfl rfl rfl⟩
theorem evU2 : ∃ d, evF tab d 7 [.slice 0 0 0 1, .slice 1 0 0 2] [⟨true, .unk⟩, ⟨true, .unk⟩] = some (.bool true, [⟨true, .unk⟩, ⟨true, .unk⟩], []) :=
  ⟨_, (ok7 0).ret (i := 8) (ls := [.n 0, .n 0]) (j := 7) (r := [.b true]) (lawU2 ) rfl rfl rfl rfl⟩
end Go.Proofs.Ytkahlinndcnjiaa
