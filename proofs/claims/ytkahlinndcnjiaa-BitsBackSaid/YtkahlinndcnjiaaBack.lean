/-
  BitsBack: what was laid, bit for bit, and the law's loops. Conditions: none.
-/
import Derived.Test.YtkahlinndcnjiaaLaybK
import Derived.Test.YtkahlinndcnjiaaSxZ
import Derived.Test.YtkahlinndcnjiaaRdW
namespace Go.Proofs.Ytkahlinndcnjiaa
open Go Go.Sx K
set_option maxRecDepth 100000
set_option linter.unusedVariables false
attribute [local simp] asI_i asB_b asL_l asN_n asS_s asE_nil altK_none altK_0 altK_1 altK_2 altK_3 optK_some optK_none Bool.cond_decide Bool.cond_not Int.toNat_natCast
set_option linter.unusedSimpArgs false
theorem altK_K7 {α : Type} (r : List Leaf) (k0 k1 k2 k3 k4 k5 k6 k7 : List Leaf → α) (ks : List (List Leaf → α)) (z : α) : altK (some (7, r)) (k0 :: k1 :: k2 :: k3 :: k4 :: k5 :: k6 :: k7 :: ks) z = k7 r := rfl
theorem altK_K8 {α : Type} (r : List Leaf) (k0 k1 k2 k3 k4 k5 k6 k7 k8 : List Leaf → α) (ks : List (List Leaf → α)) (z : α) : altK (some (8, r)) (k0 :: k1 :: k2 :: k3 :: k4 :: k5 :: k6 :: k7 :: k8 :: ks) z = k8 r := rfl
theorem altK_K9 {α : Type} (r : List Leaf) (k0 k1 k2 k3 k4 k5 k6 k7 k8 k9 : List Leaf → α) (ks : List (List Leaf → α)) (z : α) : altK (some (9, r)) (k0 :: k1 :: k2 :: k3 :: k4 :: k5 :: k6 :: k7 :: k8 :: k9 :: ks) z = k9 r := rfl
theorem altK_K10 {α : Type} (r : List Leaf) (k0 k1 k2 k3 k4 k5 k6 k7 k8 k9 k10 : List Leaf → α) (ks : List (List Leaf → α)) (z : α) : altK (some (10, r)) (k0 :: k1 :: k2 :: k3 :: k4 :: k5 :: k6 :: k7 :: k8 :: k9 :: k10 :: ks) z = k10 r := rfl
theorem altK_K11 {α : Type} (r : List Leaf) (k0 k1 k2 k3 k4 k5 k6 k7 k8 k9 k10 k11 : List Leaf → α) (ks : List (List Leaf → α)) (z : α) : altK (some (11, r)) (k0 :: k1 :: k2 :: k3 :: k4 :: k5 :: k6 :: k7 :: k8 :: k9 :: k10 :: k11 :: ks) z = k11 r := rfl
theorem vK_top (B : List Int) (a : Nat) (v : Int) (K : Nat) (h0 : 0 ≤ v) (h1 : v < pw K) (hb : ∀ i, i < K → bt B (a + i) = bv v (K - 1 - i)) : vK B a K = v := by
  have key : ∀ j, j ≤ K → vK B a j = v / pw (K - j) := by
    intro j
    induction j with
    | zero => intro _; show 0 = _; rw [Nat.sub_zero]; exact (Int.ediv_eq_zero_of_lt h0 h1).symm
    | succ j ih =>
      intro hj
      show 2 * vK B a j + bt B (a + j) = _
      rw [ih (by omega), hb j (by omega)]
      have e : pw (K - j) = pw (K - 1 - j) * 2 := by
        rw [show K - j = (K - 1 - j) + 1 by omega, pw_succ, Int.mul_comm]
      have hp := pw_pos (K - 1 - j)
      rw [e, ← Int.ediv_ediv_of_nonneg (by omega), show K - (j + 1) = K - 1 - j by omega]
      unfold bv
      omega
  have := key K (Nat.le_refl _)
  rw [Nat.sub_self, pw_0, Int.ediv_one] at this
  exact this
theorem b01_le {A : List Int} (h : B01 A) (i : Nat) : 0 ≤ A.getD i 0 ∧ A.getD i 0 ≤ 1 := by
  have := b01_get h i
  omega
theorem bit_of {a0 a1 a2 a3 a4 a5 a6 a7 : Int} (h0 : 0 ≤ a0 ∧ a0 ≤ 1) (h1 : 0 ≤ a1 ∧ a1 ≤ 1) (h2 : 0 ≤ a2 ∧ a2 ≤ 1) (h3 : 0 ≤ a3 ∧ a3 ≤ 1) (h4 : 0 ≤ a4 ∧ a4 ≤ 1) (h5 : 0 ≤ a5 ∧ a5 ≤ 1) (h6 : 0 ≤ a6 ∧ a6 ≤ 1) (h7 : 0 ≤ a7 ∧ a7 ≤ 1) :
    (a0 * 128 + a1 * 64 + a2 * 32 + a3 * 16 + a4 * 8 + a5 * 4 + a6 * 2 + a7) / 128 % 2 = a0 ∧ (a0 * 128 + a1 * 64 + a2 * 32 + a3 * 16 + a4 * 8 + a5 * 4 + a6 * 2 + a7) / 64 % 2 = a1 ∧
    (a0 * 128 + a1 * 64 + a2 * 32 + a3 * 16 + a4 * 8 + a5 * 4 + a6 * 2 + a7) / 32 % 2 = a2 ∧ (a0 * 128 + a1 * 64 + a2 * 32 + a3 * 16 + a4 * 8 + a5 * 4 + a6 * 2 + a7) / 16 % 2 = a3 ∧
    (a0 * 128 + a1 * 64 + a2 * 32 + a3 * 16 + a4 * 8 + a5 * 4 + a6 * 2 + a7) / 8 % 2 = a4 ∧ (a0 * 128 + a1 * 64 + a2 * 32 + a3 * 16 + a4 * 8 + a5 * 4 + a6 * 2 + a7) / 4 % 2 = a5 ∧
    (a0 * 128 + a1 * 64 + a2 * 32 + a3 * 16 + a4 * 8 + a5 * 4 + a6 * 2 + a7) / 2 % 2 = a6 ∧ (a0 * 128 + a1 * 64 + a2 * 32 + a3 * 16 + a4 * 8 + a5 * 4 + a6 * 2 + a7) / 1 % 2 = a7 := by
  have key : ∀ (x hi a lo p : Int), 0 < p → x = hi * (2 * p) + a * p + lo → 0 ≤ lo → lo < p → 0 ≤ a ∧ a ≤ 1 → x / p % 2 = a := fun x hi a lo p hp e l0 l1 ha => by
    have e2 : x / p = hi * 2 + a := by
      apply (Int.ediv_eq_iff_of_pos hp).2
      rw [e, Int.add_mul, Int.mul_assoc]
      omega
    rw [e2]; omega
  refine ⟨key _ 0 a0 (a1 * 64 + a2 * 32 + a3 * 16 + a4 * 8 + a5 * 4 + a6 * 2 + a7) 128 (by omega) (by omega) (by omega) (by omega) h0,
    key _ a0 a1 (a2 * 32 + a3 * 16 + a4 * 8 + a5 * 4 + a6 * 2 + a7) 64 (by omega) (by omega) (by omega) (by omega) h1,
    key _ (a0 * 2 + a1) a2 (a3 * 16 + a4 * 8 + a5 * 4 + a6 * 2 + a7) 32 (by omega) (by omega) (by omega) (by omega) h2,
    key _ (a0 * 4 + a1 * 2 + a2) a3 (a4 * 8 + a5 * 4 + a6 * 2 + a7) 16 (by omega) (by omega) (by omega) (by omega) h3,
    key _ (a0 * 8 + a1 * 4 + a2 * 2 + a3) a4 (a5 * 4 + a6 * 2 + a7) 8 (by omega) (by omega) (by omega) (by omega) h4,
    key _ (a0 * 16 + a1 * 8 + a2 * 4 + a3 * 2 + a4) a5 (a6 * 2 + a7) 4 (by omega) (by omega) (by omega) (by omega) h5,
    key _ (a0 * 32 + a1 * 16 + a2 * 8 + a3 * 4 + a4 * 2 + a5) a6 a7 2 (by omega) (by omega) (by omega) (by omega) h6,
    key _ (a0 * 64 + a1 * 32 + a2 * 16 + a3 * 8 + a4 * 4 + a5 * 2 + a6) a7 0 1 (by omega) (by omega) (by omega) (by omega) h7⟩
theorem bt_pack {A : List Int} (hA : B01 A) {z i : Nat} (h : i < 8 * z) : bt (packL A z) i = A.getD i 0 := by
  have hg : (packL A z).getD (i / 8) 0 = byteV A (i / 8) := by rw [List.getD_eq_getElem?_getD, pack_get A (show i / 8 < z by omega)]; rfl
  unfold bt
  rw [hg]
  obtain ⟨j, s, hs, rfl⟩ : ∃ j s, s < 8 ∧ i = 8 * j + s := ⟨i / 8, i % 8, by omega, by omega⟩
  rw [show (8 * j + s) / 8 = j by omega, show (8 * j + s) % 8 = s by omega]
  have hb := bit_of (b01_le hA (8 * j)) (b01_le hA (8 * j + 1)) (b01_le hA (8 * j + 2)) (b01_le hA (8 * j + 3)) (b01_le hA (8 * j + 4)) (b01_le hA (8 * j + 5)) (b01_le hA (8 * j + 6)) (b01_le hA (8 * j + 7))
  unfold byteV
  match s, hs with
  | 0, _ => exact hb.1
  | 1, _ => exact hb.2.1
  | 2, _ => exact hb.2.2.1
  | 3, _ => exact hb.2.2.2.1
  | 4, _ => exact hb.2.2.2.2.1
  | 5, _ => exact hb.2.2.2.2.2.1
  | 6, _ => exact hb.2.2.2.2.2.2.1
  | 7, _ => exact hb.2.2.2.2.2.2.2
theorem pack_in {A : List Int} (hA : B01 A) (z : Nat) : ∀ x ∈ packL A z, 0 ≤ x ∧ x ≤ 255 := fun x hx => by
  obtain ⟨i, hi⟩ := List.getElem?_of_mem hx
  have hlt : i < z := by have := (List.getElem?_eq_some_iff.1 hi).1; rwa [pack_len] at this
  rw [pack_get A hlt] at hi
  cases hi
  exact byte_in hA i
theorem sV_val {V : Int} {k : Nat} (h : fitP V k = true) : sV (vlI V k) k = V := by
  unfold fitP at h
  unfold sV vlI
  rw [Int.toNat_natCast]
  by_cases c : k = 0
  · rw [if_pos c, decide_eq_true_eq] at h
    rw [if_pos c, h]
  · rw [if_neg c, decide_eq_true_eq] at h
    rw [if_neg c]
    have e := pw_succ (k - 1)
    rw [show k - 1 + 1 = k by omega] at e
    by_cases n : V < 0
    · rw [if_pos n, if_pos (by omega)]; omega
    · rw [if_neg n, if_neg (by omega)]
/-! ### Items that were kept -/
def nx (x : Int) : Int := if x = 0 then 0 else 1
theorem nx_sg (x : Int) : (!decide (nx x = 0)) = !decide (x = 0) := by
  unfold nx
  by_cases c : x = 0
  · rw [if_pos c, c]
  · rw [if_neg c]; simp [c]
structure St3 where
  A : List Int
  Kp : List Int
  q : Nat
def kstep (s : St3) (x V K : Int) : St3 := if okI (!decide (x = 0)) V K = true then ⟨s.A ++ topL (vlI V K) K.toNat K.toNat, s.Kp ++ [nx x, V, K], s.q + 1⟩ else s
def kst (h : List Int) : Nat → St3
  | 0 => ⟨[], [], 0⟩
  | k + 1 => kstep (kst h k) (h.getD (k * 3) 0) (h.getD (k * 3 + 1) 0) (h.getD (k * 3 + 1 + 1) 0)
def offK (Kp : List Int) : Nat → Nat
  | 0 => 0
  | j + 1 => offK Kp j + (Kp.getD (j * 3 + 2) 0).toNat
structure KInv (s : St3) : Prop where
  len : s.Kp.length = s.q * 3
  off : offK s.Kp s.q = s.A.length
  b01 : B01 s.A
  item : ∀ j, j < s.q → (s.Kp.getD (j * 3) 0 = 0 ∨ s.Kp.getD (j * 3) 0 = 1) ∧ okI (!decide (s.Kp.getD (j * 3) 0 = 0)) (s.Kp.getD (j * 3 + 1) 0) (s.Kp.getD (j * 3 + 2) 0) = true ∧
    (-9223372036854775808 ≤ s.Kp.getD (j * 3 + 1) 0 ∧ s.Kp.getD (j * 3 + 1) 0 ≤ 9223372036854775807) ∧ offK s.Kp j + (s.Kp.getD (j * 3 + 2) 0).toNat ≤ s.A.length ∧
    ∀ i, i < (s.Kp.getD (j * 3 + 2) 0).toNat → s.A.getD (offK s.Kp j + i) 0 = bv (vlI (s.Kp.getD (j * 3 + 1) 0) (s.Kp.getD (j * 3 + 2) 0)) ((s.Kp.getD (j * 3 + 2) 0).toNat - 1 - i)
theorem getD_left {A B : List Int} {i : Nat} (h : i < A.length) : (A ++ B).getD i 0 = A.getD i 0 := by
  simp [List.getElem?_append_left h]
theorem getD_right {A B : List Int} {i : Nat} (h : A.length ≤ i) : (A ++ B).getD i 0 = B.getD (i - A.length) 0 := by
  simp [List.getElem?_append_right h]
theorem off_same {Kp B : List Int} {q : Nat} (hl : Kp.length = q * 3) : ∀ j, j ≤ q → offK (Kp ++ B) j = offK Kp j
  | 0, _ => rfl
  | j + 1, h => by
    show offK (Kp ++ B) j + _ = offK Kp j + _
    rw [off_same hl j (by omega), getD_left (by omega)]
theorem kstep_inv {s : St3} (hi : KInv s) (x V K : Int) (hV : -9223372036854775808 ≤ V ∧ V ≤ 9223372036854775807) : KInv (kstep s x V K) := by
  unfold kstep
  by_cases c : okI (!decide (x = 0)) V K = true
  · rw [if_pos c]
    have hK := okI_K c
    have hoff : ∀ j, j ≤ s.q → offK (s.Kp ++ [nx x, V, K]) j = offK s.Kp j := off_same hi.len
    have g0 : (s.Kp ++ [nx x, V, K]).getD (s.q * 3) 0 = nx x := by rw [getD_right (by rw [hi.len]; omega), hi.len, Nat.sub_self]; rfl
    have g1 : (s.Kp ++ [nx x, V, K]).getD (s.q * 3 + 1) 0 = V := by rw [getD_right (by rw [hi.len]; omega), hi.len, Nat.add_sub_cancel_left]; rfl
    have g2 : (s.Kp ++ [nx x, V, K]).getD (s.q * 3 + 2) 0 = K := by rw [getD_right (by rw [hi.len]; omega), hi.len, Nat.add_sub_cancel_left]; rfl
    refine ⟨?_, ?_, b01_app hi.b01 (topL_01 _ _ _), fun j hj => ?_⟩
    · show (s.Kp ++ [nx x, V, K]).length = (s.q + 1) * 3
      rw [List.length_append, hi.len]; show s.q * 3 + 3 = _; omega
    · show offK (s.Kp ++ [nx x, V, K]) s.q + ((s.Kp ++ [nx x, V, K]).getD (s.q * 3 + 2) 0).toNat = (s.A ++ _).length
      rw [hoff s.q (Nat.le_refl _), g2, hi.off, List.length_append, topL_len]
    · have hj' : j < s.q + 1 := hj
      show ((s.Kp ++ [nx x, V, K]).getD (j * 3) 0 = 0 ∨ (s.Kp ++ [nx x, V, K]).getD (j * 3) 0 = 1) ∧ okI (!decide ((s.Kp ++ [nx x, V, K]).getD (j * 3) 0 = 0)) ((s.Kp ++ [nx x, V, K]).getD (j * 3 + 1) 0) ((s.Kp ++ [nx x, V, K]).getD (j * 3 + 2) 0) = true ∧ (-9223372036854775808 ≤ (s.Kp ++ [nx x, V, K]).getD (j * 3 + 1) 0 ∧ (s.Kp ++ [nx x, V, K]).getD (j * 3 + 1) 0 ≤ 9223372036854775807) ∧ offK (s.Kp ++ [nx x, V, K]) j + ((s.Kp ++ [nx x, V, K]).getD (j * 3 + 2) 0).toNat ≤ (s.A ++ topL (vlI V K) K.toNat K.toNat).length ∧ ∀ i, i < ((s.Kp ++ [nx x, V, K]).getD (j * 3 + 2) 0).toNat → (s.A ++ topL (vlI V K) K.toNat K.toNat).getD (offK (s.Kp ++ [nx x, V, K]) j + i) 0 = bv (vlI ((s.Kp ++ [nx x, V, K]).getD (j * 3 + 1) 0) ((s.Kp ++ [nx x, V, K]).getD (j * 3 + 2) 0)) (((s.Kp ++ [nx x, V, K]).getD (j * 3 + 2) 0).toNat - 1 - i)
      rw [hoff j (by omega)]
      by_cases e : j = s.q
      · subst e
        rw [g0, g1, g2, hi.off]
        refine ⟨by unfold nx; split; exact Or.inl rfl; exact Or.inr rfl, by rw [nx_sg]; exact c, hV, by rw [List.length_append, topL_len]; omega, fun i hik => ?_⟩
        rw [getD_right (by omega), Nat.add_sub_cancel_left, List.getD_eq_getElem?_getD, topL_get _ _ _ _ hik]
        rfl
      · have hjq : j < s.q := by omega
        have hl := hi.len
        rw [getD_left (show j * 3 < s.Kp.length by omega), getD_left (show j * 3 + 1 < s.Kp.length by omega), getD_left (show j * 3 + 2 < s.Kp.length by omega)]
        obtain ⟨i1, i2, i3, i4, i5⟩ := hi.item j hjq
        refine ⟨i1, i2, i3, by rw [List.length_append]; omega, fun i hik => ?_⟩
        rw [getD_left (by omega)]
        exact i5 i hik
  · rw [if_neg c]; exact hi
theorem kst_inv (h : List Int) (m : Nat) (hV : ∀ k, k < m → -9223372036854775808 ≤ h.getD (k * 3 + 1) 0 ∧ h.getD (k * 3 + 1) 0 ≤ 9223372036854775807) : ∀ k, k ≤ m → KInv (kst h k)
  | 0, _ => ⟨rfl, rfl, (fun x hx => by cases hx), (fun j hj => by cases hj)⟩
  | k + 1, hk => kstep_inv (kst_inv h m hV k (by omega)) _ _ _ (hV k (by omega))
theorem kst_len (h : List Int) : ∀ k, (kst h k).A.length ≤ 57 * k ∧ (kst h k).q ≤ k
  | 0 => ⟨by show 0 ≤ _; omega, by show 0 ≤ _; omega⟩
  | k + 1 => by
    have ih := kst_len h k
    show (kstep (kst h k) _ _ _).A.length ≤ _ ∧ (kstep (kst h k) _ _ _).q ≤ _
    unfold kstep
    split
    · rename_i c
      have := okI_K c
      show (_ ++ topL _ _ _).length ≤ _ ∧ (kst h k).q + 1 ≤ _
      rw [List.length_append, topL_len]
      omega
    · omega
theorem kst_nil (h : List Int) : ∀ k, (kst h k).q = 0 → (kst h k).A = [] ∧ (kst h k).Kp = []
  | 0, _ => ⟨rfl, rfl⟩
  | k + 1, hq => by
    have e : kst h (k + 1) = kstep (kst h k) (h.getD (k * 3) 0) (h.getD (k * 3 + 1) 0) (h.getD (k * 3 + 1 + 1) 0) := rfl
    rw [e] at hq ⊢
    unfold kstep at hq ⊢
    split at hq
    · cases hq
    · rename_i c
      rw [if_neg c]
      exact kst_nil h k hq
/-- The state at the law's first loop. -/
def SB (m : Nat) (h : List Int) (k : Nat) (s : St3) : Nat × List Leaf :=
  if s.q = 0 then (0, [.n m, .i k, .l h, .i 0, .i 0])
  else if s.A.length = 0 then (1, [.n m, .n s.q, .i k, .l h, .i 0, .i 0, .l s.Kp])
  else (2, [.n m, .n s.q, .i k, .l h, .n ((s.A.length + 7) / 8), .i s.A.length, .i 0, .l (packL s.A ((s.A.length + 7) / 8)), .l s.Kp])
theorem wlay_0 {A : List Int} {sg : Bool} {V K : Int} (c : okI sg V K = true) : wlay A 0 sg V K = (A ++ topL (vlI V K) K.toNat K.toNat, 0) := by
  unfold wlay
  rw [if_neg (by decide), if_pos c]
set_option maxHeartbeats 8000000 in
theorem kround (m : Nat) (h : List Int) (k : Nat) (hk : k < m) (h40 : k < 40) (hm : m * 3 ≤ h.length) (s : St3) (hi : KInv s) (hl : s.A.length ≤ 57 * k) (hq : s.q ≤ k) (hn : s.q = 0 → s.A = [] ∧ s.Kp = [])
    (hV : -9223372036854775808 ≤ h.getD (k * 3 + 1) 0 ∧ h.getD (k * 3 + 1) 0 ≤ 9223372036854775807) :
    f6_0 (SB m h k s) = some (SB m h (k + 1) (kstep s (h.getD (k * 3) 0) (h.getD (k * 3 + 1) 0) (h.getD (k * 3 + 1 + 1) 0))) := by
  have c0 : h[k * 3]? = some (h.getD (k * 3) 0) := get_some (by omega)
  have c1 : h[k * 3 + 1]? = some (h.getD (k * 3 + 1) 0) := get_some (by omega)
  have c2 : h[k * 3 + 1 + 1]? = some (h.getD (k * 3 + 1 + 1) 0) := get_some (by omega)
  have hle : k * 3 + 3 ≤ h.length := by omega
  have hmod : k * 3 % 3 = 0 := Nat.mul_mod_left k 3
  have w2 : IntKind.i64.wrap ((k : Int) + 1) = ((k + 1 : Nat) : Int) := wrap_nat (n := k + 1) (by omega)
  generalize h.getD (k * 3) 0 = x at *
  generalize h.getD (k * 3 + 1) 0 = V at *
  generalize h.getD (k * 3 + 1 + 1) 0 = K at *
  obtain ⟨A, Kp, q⟩ := s
  have hb := hi.b01
  have hKl := hi.len
  simp only at hb hKl hl hq hn
  have hlaid := laid_ok (!decide (x = 0)) V K hV.1 hV.2
  have hKm : Kp.length % 3 = 0 := by rw [hKl]; exact Nat.mul_mod_left q 3
  by_cases c : okI (!decide (x = 0)) V K = true
  · have hK := okI_K c
    have es : kstep ⟨A, Kp, q⟩ x V K = ⟨A ++ topL (vlI V K) K.toNat K.toNat, Kp ++ [nx x, V, K], q + 1⟩ := if_pos c
    rw [es]
    rw [if_neg (by rw [c]; decide)] at hlaid
    have hT := topL_01 (vlI V K) K.toNat K.toNat
    have hTl := topL_len (vlI V K) K.toNat K.toNat
    by_cases q0 : q = 0
    · subst q0
      obtain ⟨rfl, rfl⟩ := hn rfl
      have hlay := lay0 (!decide (x = 0)) 0 V K hV.1 hV.2
      rw [wlay_0 c] at hlay
      have e0 : SB m h k ⟨[], [], 0⟩ = (0, [.n m, .i k, .l h, .i 0, .i 0]) := if_pos rfl
      rw [e0]
      rw [List.nil_append] at hlay
      rw [List.nil_append, List.nil_append, Nat.zero_add]
      by_cases z : K = 0
      · subst z
        rw [if_pos rfl] at hlaid
        rw [if_pos (show (topL (vlI V 0) (Int.toNat 0) (Int.toNat 0)).length = 0 from rfl)] at hlay
        have e1 : SB m h (k + 1) ⟨topL (vlI V 0) (Int.toNat 0) (Int.toNat 0), [nx x, V, 0], 1⟩ = (1, [.n m, .n 1, .i (k + 1 : Nat), .l h, .i 0, .i 0, .l [nx x, V, 0]]) := (if_neg (show ¬ (1 : Nat) = 0 by omega)).trans (if_pos rfl)
        rw [e1]
        unfold nx
        simp -implicitDefEqProofs only [f6_0, f6_0_0, asI_i, asN_n, asL_l, asB_b, asE_nil, Bool.cond_decide, Bool.cond_not, if_pos (show (k : Int) < m by omega), if_pos (show (k : Int) < 40 by omega), if_pos (show (0 : Int) ≤ k ∧ (k : Int) < m by omega), Int.toNat_natCast, if_pos hle, if_pos hmod, c0, c1, c2, optK_some, altK_0, altK_1, altK_2, altK_3, altK_4, altK_5, altK_6, altK_K7, altK_K8, altK_K9, altK_K10, altK_K11, w2, cond_true, cond_false, hlaid, hlay]
      · rw [if_neg z] at hlaid
        generalize topL (vlI V K) K.toNat K.toNat = T at *
        have hne : ¬ T.length = 0 := by omega
        rw [if_neg hne] at hlay
        have e1 : SB m h (k + 1) ⟨T, [nx x, V, K], 1⟩ = (2, [.n m, .n 1, .i (k + 1 : Nat), .l h, .n ((T.length + 7) / 8), .i T.length, .i 0, .l (packL T ((T.length + 7) / 8)), .l [nx x, V, K]]) := (if_neg (show ¬ (1 : Nat) = 0 by omega)).trans (if_neg hne)
        rw [e1]
        unfold WL at hlay
        unfold nx
        simp -implicitDefEqProofs only [f6_0, f6_0_0, asI_i, asN_n, asL_l, asB_b, asE_nil, Bool.cond_decide, Bool.cond_not, if_pos (show (k : Int) < m by omega), if_pos (show (k : Int) < 40 by omega), if_pos (show (0 : Int) ≤ k ∧ (k : Int) < m by omega), Int.toNat_natCast, if_pos hle, if_pos hmod, c0, c1, c2, optK_some, altK_0, altK_1, altK_2, altK_3, altK_4, altK_5, altK_6, altK_K7, altK_K8, altK_K9, altK_K10, altK_K11, w2, cond_true, cond_false, hlaid, hlay]
    · have eq1 : ¬ q + 1 = 0 := by omega
      by_cases a0 : A.length = 0
      · obtain rfl := List.length_eq_zero_iff.1 a0
        have hlay := lay0 (!decide (x = 0)) 0 V K hV.1 hV.2
        rw [wlay_0 c] at hlay
        have e0 : SB m h k ⟨[], Kp, q⟩ = (1, [.n m, .n q, .i k, .l h, .i 0, .i 0, .l Kp]) := (if_neg q0).trans (if_pos rfl)
        rw [e0]
        rw [List.nil_append] at hlay
        rw [List.nil_append]
        by_cases z : K = 0
        · subst z
          rw [if_pos rfl] at hlaid
          rw [if_pos (show (topL (vlI V 0) (Int.toNat 0) (Int.toNat 0)).length = 0 from rfl)] at hlay
          have e1 : SB m h (k + 1) ⟨topL (vlI V 0) (Int.toNat 0) (Int.toNat 0), Kp ++ [nx x, V, 0], q + 1⟩ = (1, [.n m, .n (q + 1), .i (k + 1 : Nat), .l h, .i 0, .i 0, .l (Kp ++ [nx x, V, 0])]) := (if_neg eq1).trans (if_pos rfl)
          rw [e1]
          unfold nx
          simp -implicitDefEqProofs only [f6_0, f6_0_1, asI_i, asN_n, asL_l, asB_b, asE_nil, Bool.cond_decide, Bool.cond_not, if_pos (show (k : Int) < m by omega), if_pos (show (k : Int) < 40 by omega), if_pos (show (0 : Int) ≤ k ∧ (k : Int) < m by omega), Int.toNat_natCast, if_pos hle, if_pos hmod, c0, c1, c2, optK_some, altK_0, altK_1, altK_2, altK_3, altK_4, altK_5, altK_6, altK_K7, altK_K8, altK_K9, altK_K10, altK_K11, w2, cond_true, cond_false, hlaid, hlay, if_pos (show (q + 1) * 24 ≤ 70368744177664 by omega), if_pos hKl, if_pos hKm]
        · rw [if_neg z] at hlaid
          generalize topL (vlI V K) K.toNat K.toNat = T at *
          have hne : ¬ T.length = 0 := by omega
          rw [if_neg hne] at hlay
          have e1 : SB m h (k + 1) ⟨T, Kp ++ [nx x, V, K], q + 1⟩ = (2, [.n m, .n (q + 1), .i (k + 1 : Nat), .l h, .n ((T.length + 7) / 8), .i T.length, .i 0, .l (packL T ((T.length + 7) / 8)), .l (Kp ++ [nx x, V, K])]) := (if_neg eq1).trans (if_neg hne)
          rw [e1]
          unfold WL at hlay
          unfold nx
          simp -implicitDefEqProofs only [f6_0, f6_0_1, asI_i, asN_n, asL_l, asB_b, asE_nil, Bool.cond_decide, Bool.cond_not, if_pos (show (k : Int) < m by omega), if_pos (show (k : Int) < 40 by omega), if_pos (show (0 : Int) ≤ k ∧ (k : Int) < m by omega), Int.toNat_natCast, if_pos hle, if_pos hmod, c0, c1, c2, optK_some, altK_0, altK_1, altK_2, altK_3, altK_4, altK_5, altK_6, altK_K7, altK_K8, altK_K9, altK_K10, altK_K11, w2, cond_true, cond_false, hlaid, hlay, if_pos (show (q + 1) * 24 ≤ 70368744177664 by omega), if_pos hKl, if_pos hKm]
      · obtain ⟨j, hj, hlay⟩ := lay1 hb (by omega) (!decide (x = 0)) 0 V K hV.1 hV.2
        rw [wlay_0 c] at hlay
        have e0 : SB m h k ⟨A, Kp, q⟩ = (2, [.n m, .n q, .i k, .l h, .n ((A.length + 7) / 8), .i A.length, .i 0, .l (packL A ((A.length + 7) / 8)), .l Kp]) := (if_neg q0).trans (if_neg a0)
        rw [e0]
        unfold WL at hlay
        simp only at hlay
        have hne : ¬ (A ++ topL (vlI V K) K.toNat K.toNat).length = 0 := by rw [List.length_append]; omega
        have e1 : SB m h (k + 1) ⟨A ++ topL (vlI V K) K.toNat K.toNat, Kp ++ [nx x, V, K], q + 1⟩ = (2, [.n m, .n (q + 1), .i (k + 1 : Nat), .l h, .n (((A ++ topL (vlI V K) K.toNat K.toNat).length + 7) / 8), .i (A ++ topL (vlI V K) K.toNat K.toNat).length, .i 0, .l (packL (A ++ topL (vlI V K) K.toNat K.toNat) (((A ++ topL (vlI V K) K.toNat K.toNat).length + 7) / 8)), .l (Kp ++ [nx x, V, K])]) := (if_neg eq1).trans (if_neg hne)
        rw [e1]
        generalize packL (A ++ topL (vlI V K) K.toNat K.toNat) (((A ++ topL (vlI V K) K.toNat K.toNat).length + 7) / 8) = by_ at *
        generalize (A ++ topL (vlI V K) K.toNat K.toNat).length = len at *
        generalize packL A ((A.length + 7) / 8) = by0 at *
        unfold nx
        by_cases z : K = 0
        · rw [if_pos z] at hlaid
          rcases hj with rfl | rfl
          · simp -implicitDefEqProofs only [f6_0, f6_0_2, asI_i, asN_n, asL_l, asB_b, asE_nil, Bool.cond_decide, Bool.cond_not, if_pos (show (k : Int) < m by omega), if_pos (show (k : Int) < 40 by omega), if_pos (show (0 : Int) ≤ k ∧ (k : Int) < m by omega), Int.toNat_natCast, if_pos hle, if_pos hmod, c0, c1, c2, optK_some, altK_0, altK_1, altK_2, altK_3, altK_4, altK_5, altK_6, altK_K7, altK_K8, altK_K9, altK_K10, altK_K11, w2, cond_true, cond_false, hlaid, hlay, if_pos (show (q + 1) * 24 ≤ 70368744177664 by omega), if_pos hKl, if_pos hKm]
          · simp -implicitDefEqProofs only [f6_0, f6_0_2, asI_i, asN_n, asL_l, asB_b, asE_nil, Bool.cond_decide, Bool.cond_not, if_pos (show (k : Int) < m by omega), if_pos (show (k : Int) < 40 by omega), if_pos (show (0 : Int) ≤ k ∧ (k : Int) < m by omega), Int.toNat_natCast, if_pos hle, if_pos hmod, c0, c1, c2, optK_some, altK_0, altK_1, altK_2, altK_3, altK_4, altK_5, altK_6, altK_K7, altK_K8, altK_K9, altK_K10, altK_K11, w2, cond_true, cond_false, hlaid, hlay, if_pos (show (q + 1) * 24 ≤ 70368744177664 by omega), if_pos hKl, if_pos hKm]
        · rw [if_neg z] at hlaid
          rcases hj with rfl | rfl
          · simp -implicitDefEqProofs only [f6_0, f6_0_2, asI_i, asN_n, asL_l, asB_b, asE_nil, Bool.cond_decide, Bool.cond_not, if_pos (show (k : Int) < m by omega), if_pos (show (k : Int) < 40 by omega), if_pos (show (0 : Int) ≤ k ∧ (k : Int) < m by omega), Int.toNat_natCast, if_pos hle, if_pos hmod, c0, c1, c2, optK_some, altK_0, altK_1, altK_2, altK_3, altK_4, altK_5, altK_6, altK_K7, altK_K8, altK_K9, altK_K10, altK_K11, w2, cond_true, cond_false, hlaid, hlay, if_pos (show (q + 1) * 24 ≤ 70368744177664 by omega), if_pos hKl, if_pos hKm]
          · simp -implicitDefEqProofs only [f6_0, f6_0_2, asI_i, asN_n, asL_l, asB_b, asE_nil, Bool.cond_decide, Bool.cond_not, if_pos (show (k : Int) < m by omega), if_pos (show (k : Int) < 40 by omega), if_pos (show (0 : Int) ≤ k ∧ (k : Int) < m by omega), Int.toNat_natCast, if_pos hle, if_pos hmod, c0, c1, c2, optK_some, altK_0, altK_1, altK_2, altK_3, altK_4, altK_5, altK_6, altK_K7, altK_K8, altK_K9, altK_K10, altK_K11, w2, cond_true, cond_false, hlaid, hlay, if_pos (show (q + 1) * 24 ≤ 70368744177664 by omega), if_pos hKl, if_pos hKm]
  · have c' : okI (!decide (x = 0)) V K = false := by simpa using c
    have es : kstep ⟨A, Kp, q⟩ x V K = ⟨A, Kp, q⟩ := if_neg c
    rw [es]
    rw [if_pos c'] at hlaid
    by_cases q0 : q = 0
    · have e0 : ∀ k, SB m h k ⟨A, Kp, q⟩ = (0, [.n m, .i k, .l h, .i 0, .i 0]) := fun k => if_pos q0
      rw [e0, e0]
      simp -implicitDefEqProofs only [f6_0, f6_0_0, asI_i, asN_n, asL_l, asB_b, asE_nil, Bool.cond_decide, Bool.cond_not, if_pos (show (k : Int) < m by omega), if_pos (show (k : Int) < 40 by omega), if_pos (show (0 : Int) ≤ k ∧ (k : Int) < m by omega), Int.toNat_natCast, if_pos hle, if_pos hmod, c0, c1, c2, optK_some, altK_0, altK_1, altK_2, altK_3, altK_4, altK_5, altK_6, altK_K7, altK_K8, altK_K9, altK_K10, altK_K11, w2, cond_true, cond_false, hlaid]
    · by_cases a0 : A.length = 0
      · have e0 : ∀ k, SB m h k ⟨A, Kp, q⟩ = (1, [.n m, .n q, .i k, .l h, .i 0, .i 0, .l Kp]) := fun k => (if_neg q0).trans (if_pos a0)
        rw [e0, e0]
        simp -implicitDefEqProofs only [f6_0, f6_0_1, asI_i, asN_n, asL_l, asB_b, asE_nil, Bool.cond_decide, Bool.cond_not, if_pos (show (k : Int) < m by omega), if_pos (show (k : Int) < 40 by omega), if_pos (show (0 : Int) ≤ k ∧ (k : Int) < m by omega), Int.toNat_natCast, if_pos hle, if_pos hmod, c0, c1, c2, optK_some, altK_0, altK_1, altK_2, altK_3, altK_4, altK_5, altK_6, altK_K7, altK_K8, altK_K9, altK_K10, altK_K11, w2, cond_true, cond_false, hlaid]
      · have e0 : ∀ k, SB m h k ⟨A, Kp, q⟩ = (2, [.n m, .n q, .i k, .l h, .n ((A.length + 7) / 8), .i A.length, .i 0, .l (packL A ((A.length + 7) / 8)), .l Kp]) := fun k => (if_neg q0).trans (if_neg a0)
        rw [e0, e0]
        simp -implicitDefEqProofs only [f6_0, f6_0_2, asI_i, asN_n, asL_l, asB_b, asE_nil, Bool.cond_decide, Bool.cond_not, if_pos (show (k : Int) < m by omega), if_pos (show (k : Int) < 40 by omega), if_pos (show (0 : Int) ≤ k ∧ (k : Int) < m by omega), Int.toNat_natCast, if_pos hle, if_pos hmod, c0, c1, c2, optK_some, altK_0, altK_1, altK_2, altK_3, altK_4, altK_5, altK_6, altK_K7, altK_K8, altK_K9, altK_K10, altK_K11, w2, cond_true, cond_false, hlaid]
def endB (m : Nat) (h : List Int) (s : St3) : Nat × List Leaf :=
  if s.q = 0 then (0, [.l h, .i 0, .i 0])
  else if s.A.length = 0 then (1, [.n s.q, .l h, .i 0, .i 0, .l s.Kp])
  else (2, [.n s.q, .l h, .n ((s.A.length + 7) / 8), .i s.A.length, .i 0, .l (packL s.A ((s.A.length + 7) / 8)), .l s.Kp])
theorem kloop (m : Nat) (h : List Int) (hm : m * 3 ≤ h.length) (hV : ∀ k, k < m → -9223372036854775808 ≤ h.getD (k * 3 + 1) 0 ∧ h.getD (k * 3 + 1) 0 ≤ 9223372036854775807) :
    L6_0 (0, [.n m, .i 0, .l h, .i 0, .i 0]) = some (endB m h (kst h (min m 40))) := by
  have hd : ∀ (α : Type) (x y : α), (if ((min m 40 : Nat) : Int) < m then (if ((min m 40 : Nat) : Int) < 40 then x else y) else y) = y := fun α x y => by
    by_cases c : ((min m 40 : Nat) : Int) < m
    · rw [if_pos c, if_neg (by omega)]
    · rw [if_neg c]
  have main := loopL_run (m := 3) (f := f6_0) (fun k => SB m h k (kst h k)) (min m 40) (j := (endB m h (kst h (min m 40))).1) (r := (endB m h (kst h (min m 40))).2) (fun k hk => ⟨?_, ?_⟩) ?_ (by omega)
  · unfold L6_0; exact main
  · have hlen := kst_len h k
    exact kround m h k (by omega) (by omega) hm (kst h k) (kst_inv h m hV k (by omega)) hlen.1 hlen.2 (kst_nil h k) (hV k (by omega))
  · show (SB m h (k + 1) (kst h (k + 1))).1 < 3
    unfold SB
    (repeat' split)
    · show 0 < 3; omega
    · show 1 < 3; omega
    · show 2 < 3; omega
  · show f6_0 (SB m h (min m 40) (kst h (min m 40))) = _
    generalize kst h (min m 40) = s
    unfold SB endB
    by_cases q0 : s.q = 0
    · rw [if_pos q0, if_pos q0]
      simp -implicitDefEqProofs only [f6_0, f6_0_0, asI_i, asN_n, asL_l, asB_b, asE_nil, Bool.cond_decide, Bool.cond_not, hd]
    · rw [if_neg q0, if_neg q0]
      by_cases a0 : s.A.length = 0
      · rw [if_pos a0, if_pos a0]
        simp -implicitDefEqProofs only [f6_0, f6_0_1, asI_i, asN_n, asL_l, asB_b, asE_nil, Bool.cond_decide, Bool.cond_not, hd]
      · rw [if_neg a0, if_neg a0]
        simp -implicitDefEqProofs only [f6_0, f6_0_2, asI_i, asN_n, asL_l, asB_b, asE_nil, Bool.cond_decide, Bool.cond_not, hd]
set_option maxHeartbeats 4000000 in
theorem rround2 (h Kp : List Int) (q j z a : Nat) (B : List Int) (n e : Int) (hj : j < q) (hq : q ≤ 1000) (hl : Kp.length = q * 3) (hB : ∀ x ∈ B, 0 ≤ x ∧ x ≤ 255) (hz : z ≤ B.length) (hz1 : z ≤ 1000) (hx : Kp.getD (j * 3) 0 = 0 ∨ Kp.getD (j * 3) 0 = 1) (hok : okI (!decide (Kp.getD (j * 3) 0 = 0)) (Kp.getD (j * 3 + 1) 0) (Kp.getD (j * 3 + 2) 0) = true)
    (hV : -9223372036854775808 ≤ Kp.getD (j * 3 + 1) 0 ∧ Kp.getD (j * 3 + 1) 0 ≤ 9223372036854775807) (ha : a + (Kp.getD (j * 3 + 2) 0).toNat ≤ 8 * z) (hv : vK B a (Kp.getD (j * 3 + 2) 0).toNat = vlI (Kp.getD (j * 3 + 1) 0) (Kp.getD (j * 3 + 2) 0)) :
    f6_1 (2, [.n q, .i 0, .i j, .l h, .i n, .i e, .l Kp, .l B, .n z, .i a, .i 0]) = some (6, [.n q, .i 0, .i (j + 1 : Nat), .l h, .l Kp, .n z, .i (a + (Kp.getD (j * 3 + 2) 0).toNat : Nat), .i 0, .l B]) := by
  have c0 : Kp[j * 3]? = some (Kp.getD (j * 3) 0) := get_some (by omega)
  have c1 : Kp[j * 3 + 1]? = some (Kp.getD (j * 3 + 1) 0) := get_some (by omega)
  have c2 : Kp[j * 3 + 2]? = some (Kp.getD (j * 3 + 2) 0) := get_some (by omega)
  have w2 : IntKind.i64.wrap ((j : Int) + 1) = ((j + 1 : Nat) : Int) := wrap_nat (n := j + 1) (by omega)
  have hne : ∀ x : Int, (x ≠ x) = False := fun x => eq_false (fun h => h rfl)
  generalize Kp.getD (j * 3) 0 = x at *
  generalize Kp.getD (j * 3 + 1) 0 = V at *
  generalize Kp.getD (j * 3 + 2) 0 = K at *
  have hK := okI_K hok
  obtain ⟨k, rfl⟩ : ∃ k : Nat, K = k := ⟨K.toNat, by omega⟩
  rw [Int.toNat_natCast] at ha hv ⊢
  rcases hx with rfl | rfl
  · have hg := get_ok B z hB hz hz1 a k (by omega) ha
    unfold okI at hok
    rw [if_neg (by omega), if_neg (by omega), show (!decide ((0 : Int) = 0)) = false from rfl, if_neg Bool.false_ne_true, decide_eq_true_eq] at hok
    have e : vlI V k = V := by unfold vlI; rw [if_neg (by omega)]
    rw [hv, e] at hg
    have hw : IntKind.u64.wrap V = V := by rw [wu_val hV.1 hV.2, if_neg (by omega)]
    simp -implicitDefEqProofs only [f6_1, f6_1_2, asI_i, asN_n, asL_l, asB_b, asE_nil, Bool.cond_decide, Bool.cond_not, if_pos (show (j : Int) < q by omega), if_pos (show (0 : Int) ≤ j ∧ (j : Int) < q by omega), Int.toNat_natCast, c0, c1, c2, optK_some, if_pos (show j * 3 % 3 < 1 by omega), if_neg (show ¬ (j * 3 + 2) % 3 < 1 by omega), if_neg (show ¬ (j * 3 + 1) % 3 < 1 by omega), altK_0, hne, if_false, if_true, w2, hg, hw]
  · have hg := sg_ok B z hB hz hz1 a k (by omega) ha
    unfold okI at hok
    rw [if_neg (by omega), if_neg (by omega), show (!decide ((1 : Int) = 0)) = true from rfl, if_pos rfl, Int.toNat_natCast] at hok
    rw [hv, sV_val hok] at hg
    simp -implicitDefEqProofs only [f6_1, f6_1_2, asI_i, asN_n, asL_l, asB_b, asE_nil, Bool.cond_decide, Bool.cond_not, if_pos (show (j : Int) < q by omega), if_pos (show (0 : Int) ≤ j ∧ (j : Int) < q by omega), Int.toNat_natCast, c0, c1, c2, optK_some, if_pos (show j * 3 % 3 < 1 by omega), if_neg (show ¬ (j * 3 + 2) % 3 < 1 by omega), if_neg (show ¬ (j * 3 + 1) % 3 < 1 by omega), altK_0, hne, if_false, if_true, w2, hg, if_neg (show ¬ (1 : Int) = 0 by omega)]
set_option maxHeartbeats 4000000 in
theorem rround4 (h Kp : List Int) (q j z a : Nat) (B : List Int) (wl : Nat) (n e : Int) (by_ : List Int) (hj : j < q) (hq : q ≤ 1000) (hl : Kp.length = q * 3) (hB : ∀ x ∈ B, 0 ≤ x ∧ x ≤ 255) (hz : z ≤ B.length) (hz1 : z ≤ 1000) (hx : Kp.getD (j * 3) 0 = 0 ∨ Kp.getD (j * 3) 0 = 1) (hok : okI (!decide (Kp.getD (j * 3) 0 = 0)) (Kp.getD (j * 3 + 1) 0) (Kp.getD (j * 3 + 2) 0) = true)
    (hV : -9223372036854775808 ≤ Kp.getD (j * 3 + 1) 0 ∧ Kp.getD (j * 3 + 1) 0 ≤ 9223372036854775807) (ha : a + (Kp.getD (j * 3 + 2) 0).toNat ≤ 8 * z) (hv : vK B a (Kp.getD (j * 3 + 2) 0).toNat = vlI (Kp.getD (j * 3 + 1) 0) (Kp.getD (j * 3 + 2) 0)) :
    f6_1 (4, [.n q, .i 0, .i j, .l h, .n wl, .i n, .i e, .l by_, .l Kp, .l B, .n z, .i a, .i 0]) = some (6, [.n q, .i 0, .i (j + 1 : Nat), .l h, .l Kp, .n z, .i (a + (Kp.getD (j * 3 + 2) 0).toNat : Nat), .i 0, .l B]) := by
  have c0 : Kp[j * 3]? = some (Kp.getD (j * 3) 0) := get_some (by omega)
  have c1 : Kp[j * 3 + 1]? = some (Kp.getD (j * 3 + 1) 0) := get_some (by omega)
  have c2 : Kp[j * 3 + 2]? = some (Kp.getD (j * 3 + 2) 0) := get_some (by omega)
  have w2 : IntKind.i64.wrap ((j : Int) + 1) = ((j + 1 : Nat) : Int) := wrap_nat (n := j + 1) (by omega)
  have hne : ∀ x : Int, (x ≠ x) = False := fun x => eq_false (fun h => h rfl)
  generalize Kp.getD (j * 3) 0 = x at *
  generalize Kp.getD (j * 3 + 1) 0 = V at *
  generalize Kp.getD (j * 3 + 2) 0 = K at *
  have hK := okI_K hok
  obtain ⟨k, rfl⟩ : ∃ k : Nat, K = k := ⟨K.toNat, by omega⟩
  rw [Int.toNat_natCast] at ha hv ⊢
  rcases hx with rfl | rfl
  · have hg := get_ok B z hB hz hz1 a k (by omega) ha
    unfold okI at hok
    rw [if_neg (by omega), if_neg (by omega), show (!decide ((0 : Int) = 0)) = false from rfl, if_neg Bool.false_ne_true, decide_eq_true_eq] at hok
    have e : vlI V k = V := by unfold vlI; rw [if_neg (by omega)]
    rw [hv, e] at hg
    have hw : IntKind.u64.wrap V = V := by rw [wu_val hV.1 hV.2, if_neg (by omega)]
    simp -implicitDefEqProofs only [f6_1, f6_1_4, asI_i, asN_n, asL_l, asB_b, asE_nil, Bool.cond_decide, Bool.cond_not, if_pos (show (j : Int) < q by omega), if_pos (show (0 : Int) ≤ j ∧ (j : Int) < q by omega), Int.toNat_natCast, c0, c1, c2, optK_some, if_pos (show j * 3 % 3 < 1 by omega), if_neg (show ¬ (j * 3 + 2) % 3 < 1 by omega), if_neg (show ¬ (j * 3 + 1) % 3 < 1 by omega), altK_0, hne, if_false, if_true, w2, hg, hw]
  · have hg := sg_ok B z hB hz hz1 a k (by omega) ha
    unfold okI at hok
    rw [if_neg (by omega), if_neg (by omega), show (!decide ((1 : Int) = 0)) = true from rfl, if_pos rfl, Int.toNat_natCast] at hok
    rw [hv, sV_val hok] at hg
    simp -implicitDefEqProofs only [f6_1, f6_1_4, asI_i, asN_n, asL_l, asB_b, asE_nil, Bool.cond_decide, Bool.cond_not, if_pos (show (j : Int) < q by omega), if_pos (show (0 : Int) ≤ j ∧ (j : Int) < q by omega), Int.toNat_natCast, c0, c1, c2, optK_some, if_pos (show j * 3 % 3 < 1 by omega), if_neg (show ¬ (j * 3 + 2) % 3 < 1 by omega), if_neg (show ¬ (j * 3 + 1) % 3 < 1 by omega), altK_0, hne, if_false, if_true, w2, hg, if_neg (show ¬ (1 : Int) = 0 by omega)]
set_option maxHeartbeats 4000000 in
theorem rround6 (h Kp : List Int) (q j z a : Nat) (B : List Int) (hj : j < q) (hq : q ≤ 1000) (hl : Kp.length = q * 3) (hB : ∀ x ∈ B, 0 ≤ x ∧ x ≤ 255) (hz : z ≤ B.length) (hz1 : z ≤ 1000) (hx : Kp.getD (j * 3) 0 = 0 ∨ Kp.getD (j * 3) 0 = 1) (hok : okI (!decide (Kp.getD (j * 3) 0 = 0)) (Kp.getD (j * 3 + 1) 0) (Kp.getD (j * 3 + 2) 0) = true)
    (hV : -9223372036854775808 ≤ Kp.getD (j * 3 + 1) 0 ∧ Kp.getD (j * 3 + 1) 0 ≤ 9223372036854775807) (ha : a + (Kp.getD (j * 3 + 2) 0).toNat ≤ 8 * z) (hv : vK B a (Kp.getD (j * 3 + 2) 0).toNat = vlI (Kp.getD (j * 3 + 1) 0) (Kp.getD (j * 3 + 2) 0)) :
    f6_1 (6, [.n q, .i 0, .i j, .l h, .l Kp, .n z, .i a, .i 0, .l B]) = some (6, [.n q, .i 0, .i (j + 1 : Nat), .l h, .l Kp, .n z, .i (a + (Kp.getD (j * 3 + 2) 0).toNat : Nat), .i 0, .l B]) := by
  have c0 : Kp[j * 3]? = some (Kp.getD (j * 3) 0) := get_some (by omega)
  have c1 : Kp[j * 3 + 1]? = some (Kp.getD (j * 3 + 1) 0) := get_some (by omega)
  have c2 : Kp[j * 3 + 2]? = some (Kp.getD (j * 3 + 2) 0) := get_some (by omega)
  have w2 : IntKind.i64.wrap ((j : Int) + 1) = ((j + 1 : Nat) : Int) := wrap_nat (n := j + 1) (by omega)
  have hne : ∀ x : Int, (x ≠ x) = False := fun x => eq_false (fun h => h rfl)
  generalize Kp.getD (j * 3) 0 = x at *
  generalize Kp.getD (j * 3 + 1) 0 = V at *
  generalize Kp.getD (j * 3 + 2) 0 = K at *
  have hK := okI_K hok
  obtain ⟨k, rfl⟩ : ∃ k : Nat, K = k := ⟨K.toNat, by omega⟩
  rw [Int.toNat_natCast] at ha hv ⊢
  rcases hx with rfl | rfl
  · have hg := get_ok B z hB hz hz1 a k (by omega) ha
    unfold okI at hok
    rw [if_neg (by omega), if_neg (by omega), show (!decide ((0 : Int) = 0)) = false from rfl, if_neg Bool.false_ne_true, decide_eq_true_eq] at hok
    have e : vlI V k = V := by unfold vlI; rw [if_neg (by omega)]
    rw [hv, e] at hg
    have hw : IntKind.u64.wrap V = V := by rw [wu_val hV.1 hV.2, if_neg (by omega)]
    simp -implicitDefEqProofs only [f6_1, f6_1_6, asI_i, asN_n, asL_l, asB_b, asE_nil, Bool.cond_decide, Bool.cond_not, if_pos (show (j : Int) < q by omega), if_pos (show (0 : Int) ≤ j ∧ (j : Int) < q by omega), Int.toNat_natCast, c0, c1, c2, optK_some, if_pos (show j * 3 % 3 < 1 by omega), if_neg (show ¬ (j * 3 + 2) % 3 < 1 by omega), if_neg (show ¬ (j * 3 + 1) % 3 < 1 by omega), altK_0, hne, if_false, if_true, w2, hg, hw]
  · have hg := sg_ok B z hB hz hz1 a k (by omega) ha
    unfold okI at hok
    rw [if_neg (by omega), if_neg (by omega), show (!decide ((1 : Int) = 0)) = true from rfl, if_pos rfl, Int.toNat_natCast] at hok
    rw [hv, sV_val hok] at hg
    simp -implicitDefEqProofs only [f6_1, f6_1_6, asI_i, asN_n, asL_l, asB_b, asE_nil, Bool.cond_decide, Bool.cond_not, if_pos (show (j : Int) < q by omega), if_pos (show (0 : Int) ≤ j ∧ (j : Int) < q by omega), Int.toNat_natCast, c0, c1, c2, optK_some, if_pos (show j * 3 % 3 < 1 by omega), if_neg (show ¬ (j * 3 + 2) % 3 < 1 by omega), if_neg (show ¬ (j * 3 + 1) % 3 < 1 by omega), altK_0, hne, if_false, if_true, w2, hg, if_neg (show ¬ (1 : Int) = 0 by omega)]
theorem rloop2 (h : List Int) (s : St3) (hi : KInv s) (z : Nat) (n e : Int) (hq0 : 0 < s.q) (hq : s.q ≤ 1000) (hz : z = (s.A.length + 7) / 8) (hz1 : z ≤ 1000) :
    L6_1 (2, [.n s.q, .i 0, .i 0, .l h, .i n, .i e, .l s.Kp, .l (packL s.A z), .n z, .i 0, .i 0]) = some (10, [.i 0, .l h, .l s.Kp, .n z, .i s.A.length, .i 0, .l (packL s.A z)]) := by
  have hB := pack_in hi.b01 z
  have hzl : z ≤ (packL s.A z).length := by rw [pack_len]; omega
  have item : ∀ j, j < s.q → (s.Kp.getD (j * 3) 0 = 0 ∨ s.Kp.getD (j * 3) 0 = 1) ∧ okI (!decide (s.Kp.getD (j * 3) 0 = 0)) (s.Kp.getD (j * 3 + 1) 0) (s.Kp.getD (j * 3 + 2) 0) = true ∧ (-9223372036854775808 ≤ s.Kp.getD (j * 3 + 1) 0 ∧ s.Kp.getD (j * 3 + 1) 0 ≤ 9223372036854775807) ∧ offK s.Kp j + (s.Kp.getD (j * 3 + 2) 0).toNat ≤ 8 * z ∧ vK (packL s.A z) (offK s.Kp j) (s.Kp.getD (j * 3 + 2) 0).toNat = vlI (s.Kp.getD (j * 3 + 1) 0) (s.Kp.getD (j * 3 + 2) 0) := fun j hj => by
    obtain ⟨i1, i2, i3, i4, i5⟩ := hi.item j hj
    have hv := okI_val i2
    exact ⟨i1, i2, i3, by omega, vK_top _ _ _ _ hv.1 hv.2 (fun i hik => by rw [bt_pack hi.b01 (by omega)]; exact i5 i hik)⟩
  let S : Nat → Nat × List Leaf := fun j => if j = 0 then (2, [.n s.q, .i 0, .i ((0 : Nat) : Int), .l h, .i n, .i e, .l s.Kp, .l (packL s.A z), .n z, .i ((0 : Nat) : Int), .i 0]) else (6, [.n s.q, .i 0, .i j, .l h, .l s.Kp, .n z, .i (offK s.Kp j : Nat), .i 0, .l (packL s.A z)])
  have Z : S 0 = (2, [.n s.q, .i 0, .i ((0 : Nat) : Int), .l h, .i n, .i e, .l s.Kp, .l (packL s.A z), .n z, .i ((0 : Nat) : Int), .i 0]) := rfl
  have Sk : ∀ j, j ≠ 0 → S j = (6, [.n s.q, .i 0, .i j, .l h, .l s.Kp, .n z, .i (offK s.Kp j : Nat), .i 0, .l (packL s.A z)]) := fun j hj => if_neg hj
  have main := loopL_run (m := 8) (f := f6_1) S s.q (j := 10) (r := [.i 0, .l h, .l s.Kp, .n z, .i s.A.length, .i 0, .l (packL s.A z)]) (fun j hj => ?_) ?_ (by omega)
  · unfold L6_1; exact main
  · obtain ⟨i1, i2, i3, i4, i5⟩ := item j hj
    rw [Sk (j + 1) (by omega)]
    refine ⟨?_, by show 6 < 8; omega⟩
    by_cases c : j = 0
    · subst c
      rw [Z]
      exact rround2 h s.Kp s.q 0 z 0 (packL s.A z) n e hj hq hi.len hB hzl hz1 i1 i2 i3 i4 i5
    · rw [Sk j c]
      exact rround6 h s.Kp s.q j z (offK s.Kp j) (packL s.A z) hj hq hi.len hB hzl hz1 i1 i2 i3 i4 i5
  · rw [Sk s.q (by omega), hi.off]
    simp -implicitDefEqProofs only [f6_1, f6_1_6, asI_i, asN_n, asL_l, asB_b, asE_nil, Bool.cond_decide, Bool.cond_not, if_neg (Int.lt_irrefl _)]
theorem rloop4 (h : List Int) (s : St3) (hi : KInv s) (z : Nat) (wl : Nat) (n e : Int) (by_ : List Int) (hq0 : 0 < s.q) (hq : s.q ≤ 1000) (hz : z = (s.A.length + 7) / 8) (hz1 : z ≤ 1000) :
    L6_1 (4, [.n s.q, .i 0, .i 0, .l h, .n wl, .i n, .i e, .l by_, .l s.Kp, .l (packL s.A z), .n z, .i 0, .i 0]) = some (10, [.i 0, .l h, .l s.Kp, .n z, .i s.A.length, .i 0, .l (packL s.A z)]) := by
  have hB := pack_in hi.b01 z
  have hzl : z ≤ (packL s.A z).length := by rw [pack_len]; omega
  have item : ∀ j, j < s.q → (s.Kp.getD (j * 3) 0 = 0 ∨ s.Kp.getD (j * 3) 0 = 1) ∧ okI (!decide (s.Kp.getD (j * 3) 0 = 0)) (s.Kp.getD (j * 3 + 1) 0) (s.Kp.getD (j * 3 + 2) 0) = true ∧ (-9223372036854775808 ≤ s.Kp.getD (j * 3 + 1) 0 ∧ s.Kp.getD (j * 3 + 1) 0 ≤ 9223372036854775807) ∧ offK s.Kp j + (s.Kp.getD (j * 3 + 2) 0).toNat ≤ 8 * z ∧ vK (packL s.A z) (offK s.Kp j) (s.Kp.getD (j * 3 + 2) 0).toNat = vlI (s.Kp.getD (j * 3 + 1) 0) (s.Kp.getD (j * 3 + 2) 0) := fun j hj => by
    obtain ⟨i1, i2, i3, i4, i5⟩ := hi.item j hj
    have hv := okI_val i2
    exact ⟨i1, i2, i3, by omega, vK_top _ _ _ _ hv.1 hv.2 (fun i hik => by rw [bt_pack hi.b01 (by omega)]; exact i5 i hik)⟩
  let S : Nat → Nat × List Leaf := fun j => if j = 0 then (4, [.n s.q, .i 0, .i ((0 : Nat) : Int), .l h, .n wl, .i n, .i e, .l by_, .l s.Kp, .l (packL s.A z), .n z, .i ((0 : Nat) : Int), .i 0]) else (6, [.n s.q, .i 0, .i j, .l h, .l s.Kp, .n z, .i (offK s.Kp j : Nat), .i 0, .l (packL s.A z)])
  have Z : S 0 = (4, [.n s.q, .i 0, .i ((0 : Nat) : Int), .l h, .n wl, .i n, .i e, .l by_, .l s.Kp, .l (packL s.A z), .n z, .i ((0 : Nat) : Int), .i 0]) := rfl
  have Sk : ∀ j, j ≠ 0 → S j = (6, [.n s.q, .i 0, .i j, .l h, .l s.Kp, .n z, .i (offK s.Kp j : Nat), .i 0, .l (packL s.A z)]) := fun j hj => if_neg hj
  have main := loopL_run (m := 8) (f := f6_1) S s.q (j := 10) (r := [.i 0, .l h, .l s.Kp, .n z, .i s.A.length, .i 0, .l (packL s.A z)]) (fun j hj => ?_) ?_ (by omega)
  · unfold L6_1; exact main
  · obtain ⟨i1, i2, i3, i4, i5⟩ := item j hj
    rw [Sk (j + 1) (by omega)]
    refine ⟨?_, by show 6 < 8; omega⟩
    by_cases c : j = 0
    · subst c
      rw [Z]
      exact rround4 h s.Kp s.q 0 z 0 (packL s.A z) wl n e by_ hj hq hi.len hB hzl hz1 i1 i2 i3 i4 i5
    · rw [Sk j c]
      exact rround6 h s.Kp s.q j z (offK s.Kp j) (packL s.A z) hj hq hi.len hB hzl hz1 i1 i2 i3 i4 i5
  · rw [Sk s.q (by omega), hi.off]
    simp -implicitDefEqProofs only [f6_1, f6_1_6, asI_i, asN_n, asL_l, asB_b, asE_nil, Bool.cond_decide, Bool.cond_not, if_neg (Int.lt_irrefl _)]
theorem len0 (n e : Int) : g14 (0, [.i n, .i e]) = some (0, [.i n, .i n, .i e]) := by
  simp -implicitDefEqProofs only [g14, g14_0, asI_i, asN_n, asL_l, asB_b, asE_nil, Bool.cond_decide, Bool.cond_not]
theorem len1 (w : Nat) (n e : Int) (b : List Int) : g14 (1, [.n w, .i n, .i e, .l b]) = some (1, [.i n, .n w, .i n, .i e, .l b]) := by
  simp -implicitDefEqProofs only [g14, g14_1, asI_i, asN_n, asL_l, asB_b, asE_nil, Bool.cond_decide, Bool.cond_not]
theorem read0 (n : Nat) (B : List Int) : g19 (0, [.n n, .l B]) = some (0, [.l B, .n n, .i 0, .i 0]) := by
  simp -implicitDefEqProofs only [g19, g19_0, asI_i, asN_n, asL_l, asB_b, asE_nil, Bool.cond_decide, Bool.cond_not]
set_option maxHeartbeats 8000000 in
theorem law_K (m : Nat) (h : List Int) (hm : m * 3 ≤ h.length) (hV : ∀ k, k < m → -9223372036854775808 ≤ h.getD (k * 3 + 1) 0 ∧ h.getD (k * 3 + 1) 0 ≤ 9223372036854775807) :
    g6 (0, [.n m, .l h]) = some (0, [.b true, .l h]) := by
  have hw := kloop m h hm hV
  have hi := kst_inv h m hV (min m 40) (by omega)
  have hlen := kst_len h (min m 40)
  have hnil := kst_nil h (min m 40)
  generalize kst h (min m 40) = s at *
  have z0 : IntKind.i64.wrap (Int.tdiv (IntKind.i64.wrap (0 + 7)) 8) = 0 := by decide
  have hb0 := byts0 0 0 (by omega)
  rw [if_neg (by decide), if_neg (by decide)] at hb0
  have hb0' : g13 (0, [.i 0, .i 0, .i 0]) = some (0, [.n 0, .i 0, .i 0, .i 0, .l []]) := hb0
  by_cases q0 : s.q = 0
  · have e : endB m h s = (0, [.l h, .i 0, .i 0]) := if_pos q0
    rw [e] at hw
    have hl : L6_1 (0, [.i 0, .i 0, .l h, .i 0, .i 0, .l [], .n 0, .i 0, .i 0]) = some (0, [.i 0, .l h, .i 0, .i 0, .l [], .n 0, .i 0, .i 0]) := loopL_last (m := 8) (f := f6_1) (j := 0) (by
      simp -implicitDefEqProofs only [f6_1, f6_1_0, asI_i, asN_n, asL_l, asB_b, asE_nil, Bool.cond_decide, Bool.cond_not, if_neg (Int.lt_irrefl _)])
    have hlf : g22 (0, [.n 0, .i 0, .i 0, .l []]) = some (0, [.i 0, .n 0, .i 0, .i 0, .l []]) := left_0 [] 0 0 (by omega) (by omega)
    obtain ⟨a', e1, e2, e3⟩ := end_0 [] 0 (fun x hx => by cases hx) (by show 0 ≤ 0; omega) (by omega) 0 (by omega)
    have hen : g23 (0, [.n 0, .i 0, .i 0, .l []]) = some (0, [.i 0, .n 0, .i (a' : Nat), .i 0, .l []]) := e3
    simp -implicitDefEqProofs only [g6, g6_0, asI_i, asN_n, asL_l, asB_b, asE_nil, Bool.cond_decide, Bool.cond_not, altK_0, altK_1, altK_2, altK_3, altK_4, altK_5, altK_6, altK_K7, altK_K8, altK_K9, altK_K10, altK_K11, if_true, if_false, cond_true, cond_false, awakeL_ok, len0, len1, read0, hw, z0, hb0', hl, hlf, if_pos (show (0 : Int) < 8 by omega), hen]
  · by_cases a0 : s.A.length = 0
    · have e : endB m h s = (1, [.n s.q, .l h, .i 0, .i 0, .l s.Kp]) := (if_neg q0).trans (if_pos a0)
      rw [e] at hw
      have hr := rloop2 h s hi 0 0 0 (by omega) (by omega) (by omega) (by omega)
      have ep : packL s.A 0 = [] := rfl
      rw [ep] at hr
      have e00 : ((s.A.length : Nat) : Int) = 0 := by omega
      rw [e00] at hr
      have hlf : g22 (0, [.n 0, .i 0, .i 0, .l []]) = some (0, [.i 0, .n 0, .i 0, .i 0, .l []]) := left_0 [] 0 0 (by omega) (by omega)
      obtain ⟨a', e1, e2, e3⟩ := end_0 [] 0 (fun x hx => by cases hx) (by show 0 ≤ 0; omega) (by omega) 0 (by omega)
      have hen : g23 (0, [.n 0, .i 0, .i 0, .l []]) = some (0, [.i 0, .n 0, .i (a' : Nat), .i 0, .l []]) := e3
      simp -implicitDefEqProofs only [g6, g6_0, asI_i, asN_n, asL_l, asB_b, asE_nil, Bool.cond_decide, Bool.cond_not, altK_0, altK_1, altK_2, altK_3, altK_4, altK_5, altK_6, altK_K7, altK_K8, altK_K9, altK_K10, altK_K11, if_true, if_false, cond_true, cond_false, awakeL_ok, len0, len1, read0, hw, z0, hb0', hr, hlf, if_pos (show (0 : Int) < 8 by omega), hen]
    · have e : endB m h s = (2, [.n s.q, .l h, .n ((s.A.length + 7) / 8), .i s.A.length, .i 0, .l (packL s.A ((s.A.length + 7) / 8)), .l s.Kp]) := (if_neg q0).trans (if_neg a0)
      rw [e] at hw
      obtain ⟨z, hz⟩ : ∃ z, z = (s.A.length + 7) / 8 := ⟨_, rfl⟩
      have hz1 : z ≤ 1000 := by omega
      have hr := rloop4 h s hi z z s.A.length 0 (packL s.A z) (by omega) (by omega) hz hz1
      have w7 : IntKind.i64.wrap (Int.tdiv (IntKind.i64.wrap ((s.A.length : Int) + 7)) 8) = (z : Int) := by
        rw [show IntKind.i64.wrap ((s.A.length : Int) + 7) = ((s.A.length + 7 : Nat) : Int) from wrap_nat (n := s.A.length + 7) (by omega), Int.tdiv_eq_ediv_of_nonneg (by omega), wrap64 (by omega) (by omega)]; omega
      have hb := byts1 s.A (z : Int) 0 (by omega)
      rw [if_neg (by decide), if_neg (by omega), if_neg (by omega)] at hb
      unfold WL at hb
      rw [← hz, Int.toNat_natCast] at hb
      rw [← hz] at hw
      simp only [List.cons_append, List.nil_append] at hb
      have hB := pack_in hi.b01 z
      have hzl : z ≤ (packL s.A z).length := by rw [pack_len]; omega
      have hlf := left_0 (packL s.A z) z s.A.length (by omega) hz1
      obtain ⟨a', e1, e2, e3⟩ := end_0 (packL s.A z) z hB hzl hz1 s.A.length (by omega)
      have hany : anyK (packL s.A z) s.A.length (8 * z - s.A.length) = false := by
        apply Bool.eq_false_iff.2
        intro q
        obtain ⟨k, hk, h1, _⟩ := anyK_true _ _ _ q
        rw [bt_pack hi.b01 (by omega), getD_none (by omega)] at h1
        omega
      rw [hany, if_neg Bool.false_ne_true] at e3
      generalize packL s.A z = P at *
      simp -implicitDefEqProofs only [g6, g6_0, asI_i, asN_n, asL_l, asB_b, asE_nil, Bool.cond_decide, Bool.cond_not, altK_0, altK_1, altK_2, altK_3, altK_4, altK_5, altK_6, altK_K7, altK_K8, altK_K9, altK_K10, altK_K11, if_true, if_false, cond_true, cond_false, awakeL_ok, len0, len1, read0, hw, w7, hb, hr, hlf, if_pos (show ((8 * z - s.A.length : Nat) : Int) < 8 by omega), e3]
theorem ev_K (m : Nat) (h : List Int) (hm : h.length = m * 3) (hV : ∀ k, k < m → -9223372036854775808 ≤ h.getD (k * 3 + 1) 0 ∧ h.getD (k * 3 + 1) 0 ≤ 9223372036854775807) : ∃ d, evF tab d 6 [.slice 0 0 m 3] [⟨false, .mix [.bool, .int .i64, .int .i64] h⟩] = some (.bool true, [⟨false, .mix [.bool, .int .i64, .int .i64] h⟩], []) :=
  ⟨_, (ok6 0).ret (i := 0) (ls := [.n m, .l h]) (j := 0) (r := [.b true, .l h]) (law_K m h (by omega) hV) rfl rfl rfl rfl⟩
theorem back_nil : evF tab 30 6 [.nils] [] = some (.bool true, [], []) := by kernel_rfl
theorem back_d : evF tab 30 6 [.slice 0 0 0 3] [⟨true, .unk⟩] = some (.bool true, [⟨true, .unk⟩], []) := by kernel_rfl
theorem item_wf {m : Nat} {h : List Int} (hm : h.length = m * 3) (hw : ∀ j, j < h.length → (kindAt [.bool, .int .i64, .int .i64] j).wf (h.getD j 0)) : ∀ k, k < m → -9223372036854775808 ≤ h.getD (k * 3 + 1) 0 ∧ h.getD (k * 3 + 1) 0 ≤ 9223372036854775807 := fun k hk => by
  have h1 := hw (k * 3 + 1) (by omega)
  rw [kindAt_add (ks := [.bool, .int .i64, .int .i64]) (i := k * 3) (j := 1) (Nat.mul_mod_left k 3)] at h1
  exact wf64 h1
end Go.Proofs.Ytkahlinndcnjiaa
