/-
  A frame's bits, back and forth. Conditions: none.
-/
import Derived.Test.YtdngjlgbebmbhaaFrs
import Derived.Test.YtdngjlgbebmbhaaFrw
namespace Go.Proofs.Ytdngjlgbebmbhaa
open Go Go.Sx
set_option maxRecDepth 100000
set_option linter.unusedVariables false
set_option linter.unusedSimpArgs false
attribute [local simp] asI_i asB_b asL_l asN_n asS_s asE_nil altK_none altK_0 altK_1 altK_2 altK_3 optK_some optK_none Bool.cond_decide Bool.cond_not Int.toNat_natCast
set_option linter.unusedSimpArgs false
theorem vK_top (B : List Int) (a : Nat) (v : Int) (K : Nat) (h0 : 0 ≤ v) (h1 : v < pw K) (hb : ∀ i, i < K → bt B (a + i) = bv v (K - 1 - i)) : vK B a K = v := by
  have key : ∀ j, j ≤ K → vK B a j = v / pw (K - j) := by
    intro j
    induction j with
    | zero => intro _; show 0 = _; rw [Nat.sub_zero]; exact (Int.ediv_eq_zero_of_lt h0 h1).symm
    | succ j ih =>
      intro hj
      show 2 * vK B a j + bt B (a + j) = _
      rw [ih (by omega), hb j (by omega)]
      have e : pw (K - j) = pw (K - 1 - j) * 2 := by
        rw [show K - j = (K - 1 - j) + 1 by omega, pw_succ, Int.mul_comm]
      have hp := pw_pos (K - 1 - j)
      rw [e, ← Int.ediv_ediv_of_nonneg (by omega), show K - (j + 1) = K - 1 - j by omega]
      unfold bv
      omega
  have := key K (Nat.le_refl _)
  rw [Nat.sub_self, pw_0, Int.ediv_one] at this
  exact this
theorem b01_le {A : List Int} (h : B01 A) (i : Nat) : 0 ≤ A.getD i 0 ∧ A.getD i 0 ≤ 1 := by
  have := b01_get h i
  omega
theorem bit_of {a0 a1 a2 a3 a4 a5 a6 a7 : Int} (h0 : 0 ≤ a0 ∧ a0 ≤ 1) (h1 : 0 ≤ a1 ∧ a1 ≤ 1) (h2 : 0 ≤ a2 ∧ a2 ≤ 1) (h3 : 0 ≤ a3 ∧ a3 ≤ 1) (h4 : 0 ≤ a4 ∧ a4 ≤ 1) (h5 : 0 ≤ a5 ∧ a5 ≤ 1) (h6 : 0 ≤ a6 ∧ a6 ≤ 1) (h7 : 0 ≤ a7 ∧ a7 ≤ 1) :
    (a0 * 128 + a1 * 64 + a2 * 32 + a3 * 16 + a4 * 8 + a5 * 4 + a6 * 2 + a7) / 128 % 2 = a0 ∧ (a0 * 128 + a1 * 64 + a2 * 32 + a3 * 16 + a4 * 8 + a5 * 4 + a6 * 2 + a7) / 64 % 2 = a1 ∧
    (a0 * 128 + a1 * 64 + a2 * 32 + a3 * 16 + a4 * 8 + a5 * 4 + a6 * 2 + a7) / 32 % 2 = a2 ∧ (a0 * 128 + a1 * 64 + a2 * 32 + a3 * 16 + a4 * 8 + a5 * 4 + a6 * 2 + a7) / 16 % 2 = a3 ∧
    (a0 * 128 + a1 * 64 + a2 * 32 + a3 * 16 + a4 * 8 + a5 * 4 + a6 * 2 + a7) / 8 % 2 = a4 ∧ (a0 * 128 + a1 * 64 + a2 * 32 + a3 * 16 + a4 * 8 + a5 * 4 + a6 * 2 + a7) / 4 % 2 = a5 ∧
    (a0 * 128 + a1 * 64 + a2 * 32 + a3 * 16 + a4 * 8 + a5 * 4 + a6 * 2 + a7) / 2 % 2 = a6 ∧ (a0 * 128 + a1 * 64 + a2 * 32 + a3 * 16 + a4 * 8 + a5 * 4 + a6 * 2 + a7) / 1 % 2 = a7 := by
  have key : ∀ (x hi a lo p : Int), 0 < p → x = hi * (2 * p) + a * p + lo → 0 ≤ lo → lo < p → 0 ≤ a ∧ a ≤ 1 → x / p % 2 = a := fun x hi a lo p hp e l0 l1 ha => by
    have e2 : x / p = hi * 2 + a := by
      apply (Int.ediv_eq_iff_of_pos hp).2
      rw [e, Int.add_mul, Int.mul_assoc]
      omega
    rw [e2]; omega
  refine ⟨key _ 0 a0 (a1 * 64 + a2 * 32 + a3 * 16 + a4 * 8 + a5 * 4 + a6 * 2 + a7) 128 (by omega) (by omega) (by omega) (by omega) h0,
    key _ a0 a1 (a2 * 32 + a3 * 16 + a4 * 8 + a5 * 4 + a6 * 2 + a7) 64 (by omega) (by omega) (by omega) (by omega) h1,
    key _ (a0 * 2 + a1) a2 (a3 * 16 + a4 * 8 + a5 * 4 + a6 * 2 + a7) 32 (by omega) (by omega) (by omega) (by omega) h2,
    key _ (a0 * 4 + a1 * 2 + a2) a3 (a4 * 8 + a5 * 4 + a6 * 2 + a7) 16 (by omega) (by omega) (by omega) (by omega) h3,
    key _ (a0 * 8 + a1 * 4 + a2 * 2 + a3) a4 (a5 * 4 + a6 * 2 + a7) 8 (by omega) (by omega) (by omega) (by omega) h4,
    key _ (a0 * 16 + a1 * 8 + a2 * 4 + a3 * 2 + a4) a5 (a6 * 2 + a7) 4 (by omega) (by omega) (by omega) (by omega) h5,
    key _ (a0 * 32 + a1 * 16 + a2 * 8 + a3 * 4 + a4 * 2 + a5) a6 a7 2 (by omega) (by omega) (by omega) (by omega) h6,
    key _ (a0 * 64 + a1 * 32 + a2 * 16 + a3 * 8 + a4 * 4 + a5 * 2 + a6) a7 0 1 (by omega) (by omega) (by omega) (by omega) h7⟩
theorem bt_pack {A : List Int} (hA : B01 A) {z i : Nat} (h : i < 8 * z) : bt (packL A z) i = A.getD i 0 := by
  have hg : (packL A z).getD (i / 8) 0 = byteV A (i / 8) := by rw [List.getD_eq_getElem?_getD, pack_get A (show i / 8 < z by omega)]; rfl
  unfold bt
  rw [hg]
  obtain ⟨j, s, hs, rfl⟩ : ∃ j s, s < 8 ∧ i = 8 * j + s := ⟨i / 8, i % 8, by omega, by omega⟩
  rw [show (8 * j + s) / 8 = j by omega, show (8 * j + s) % 8 = s by omega]
  have hb := bit_of (b01_le hA (8 * j)) (b01_le hA (8 * j + 1)) (b01_le hA (8 * j + 2)) (b01_le hA (8 * j + 3)) (b01_le hA (8 * j + 4)) (b01_le hA (8 * j + 5)) (b01_le hA (8 * j + 6)) (b01_le hA (8 * j + 7))
  unfold byteV
  match s, hs with
  | 0, _ => exact hb.1
  | 1, _ => exact hb.2.1
  | 2, _ => exact hb.2.2.1
  | 3, _ => exact hb.2.2.2.1
  | 4, _ => exact hb.2.2.2.2.1
  | 5, _ => exact hb.2.2.2.2.2.1
  | 6, _ => exact hb.2.2.2.2.2.2.1
  | 7, _ => exact hb.2.2.2.2.2.2.2
theorem pack_in {A : List Int} (hA : B01 A) (z : Nat) : ∀ x ∈ packL A z, 0 ≤ x ∧ x ≤ 255 := fun x hx => by
  obtain ⟨i, hi⟩ := List.getElem?_of_mem hx
  have hlt : i < z := by have := (List.getElem?_eq_some_iff.1 hi).1; rwa [pack_len] at this
  rw [pack_get A hlt] at hi
  cases hi
  exact byte_in hA i
theorem sV_val {V : Int} {k : Nat} (h : fitP V k = true) : sV (vlI V k) k = V := by
  unfold fitP at h
  unfold sV vlI
  rw [Int.toNat_natCast]
  by_cases c : k = 0
  · rw [if_pos c, decide_eq_true_eq] at h
    rw [if_pos c, h]
  · rw [if_neg c, decide_eq_true_eq] at h
    rw [if_neg c]
    have e := pw_succ (k - 1)
    rw [show k - 1 + 1 = k by omega] at e
    by_cases n : V < 0
    · rw [if_pos n, if_pos (by omega)]; omega
    · rw [if_neg n, if_neg (by omega)]
theorem pre_get {A L : List Int} (h : A <+: L) {i : Nat} (hi : i < A.length) : L.getD i 0 = A.getD i 0 := by
  obtain ⟨Y, rfl⟩ := h
  rw [List.getD_eq_getElem?_getD, List.getD_eq_getElem?_getD, List.getElem?_append_left hi]
theorem app_get (A X : List Int) (i : Nat) : (A ++ X).getD (A.length + i) 0 = X.getD i 0 := by
  rw [List.getD_eq_getElem?_getD, List.getD_eq_getElem?_getD, List.getElem?_append_right (by omega), Nat.add_sub_cancel_left]
theorem top_getD (v : Int) (K : Nat) {i : Nat} (h : i < K) : (topL v K K).getD i 0 = bv v (K - 1 - i) := by
  rw [List.getD_eq_getElem?_getD, topL_get v K K i h]; rfl
theorem item_get {L A : List Int} {v : Int} {K n : Nat} (hp : (A ++ topL v K K) <+: L) (hL : B01 L) (hn : L.length ≤ 8 * n) (h0 : 0 ≤ v) (h1 : v < pw K) : vK (packL L n) A.length K = v :=
  vK_top _ _ _ _ h0 h1 fun i hi => by
    have hl : A.length + K ≤ L.length := by have := hp.length_le; rw [List.length_append, topL_len] at this; exact this
    rw [bt_pack hL (by omega), pre_get hp (by rw [List.length_append, topL_len]; omega), app_get, top_getD v K hi]
/-! ### Of a frame that may be -/
theorem pG (c : List NC) : ∀ d k, eG c k <+: eG c (k + d)
  | 0, k => List.prefix_rfl
  | d + 1, k => (pG c d k).trans (List.prefix_append _ _)
theorem pT (c : List NC) : ∀ d k, eT c k <+: eT c (k + d)
  | 0, k => List.prefix_rfl
  | d + 1, k => (pT c d k).trans ((List.prefix_append _ _).trans (List.prefix_append _ _))
theorem pS (c : List NC) : ∀ d k, eS c k <+: eS c (k + d)
  | 0, k => List.prefix_rfl
  | d + 1, k => (pS c d k).trans ((List.prefix_append _ _).trans (List.prefix_append _ _))
theorem pQ (c : List NC) : ∀ d k, eQ c k <+: eQ c (k + d)
  | 0, k => List.prefix_rfl
  | d + 1, k => (pQ c d k).trans (List.prefix_append _ _)
theorem qQ (c : List NC) {k : Nat} (h : k ≤ 16) : eQ c k <+: eQ c 16 := by have := pQ c (16 - k) k; rwa [show k + (16 - k) = 16 by omega] at this
theorem qS (c : List NC) {k : Nat} (h : k ≤ 4) : eS c k <+: eQ c 16 := by
  have := pS c (4 - k) k
  rw [show k + (4 - k) = 4 by omega] at this
  exact this.trans (qQ c (k := 0) (by omega))
theorem qT (c : List NC) {k : Nat} (h : k ≤ Nc c) : eT c k <+: eQ c 16 := by
  have := pT c (Nc c - k) k
  rw [show k + (Nc c - k) = Nc c by omega] at this
  exact this.trans (qS c (k := 0) (by omega))
theorem qG (c : List NC) {k : Nat} (h : k ≤ 4) : eG c k <+: eQ c 16 := by
  have := pG c (4 - k) k
  rw [show k + (4 - k) = 4 by omega] at this
  exact this.trans ((List.prefix_append _ _).trans (qT c (k := 0) (by omega)))
theorem fit_vl {V : Int} {k : Nat} (hk : k ≤ 57) (h : fitP V k = true) : 0 ≤ vlI V k ∧ vlI V k < pw k := by
  have ok : okI true V (k : Int) = true := by unfold okI; rw [if_neg (by omega), if_neg (by omega), if_pos rfl, Int.toNat_natCast]; exact h
  have := okI_val ok
  rwa [Int.toNat_natCast] at this
structure Dec (c : List NC) (B : List Int) : Prop where
  first : vK B 0 2 = 1
  g : ∀ k, k < 4 → vK B (2 + 2 * k) 2 = Ac c k
  n : cnt B = Nc c
  t0 : ∀ k, k < Nc c → vK B (12 + 28 * k) 4 = (Tc c).getD (k * 2) 0
  t1 : ∀ k, k < Nc c → sV (vK B (12 + 28 * k + 4) 24) 24 = (Tc c).getD (k * 2 + 1) 0
  s : ∀ k, k < 4 → sc B k = Ac c (5 + k)
  w : ∀ k, k < 4 → wd B k = Ac c (9 + k)
  p : ∀ k, k ≤ 16 → ps B k = 52 + 28 * Nc c + wsum c k
  q : ∀ k, k < 16 → qv B k = Ac c (13 + k)
theorem dec_ok {c : List NC} (hr : RP c) {n : Nat} (hm : mC c ≤ 8 * n) : Dec c (packL (eQ c 16) n) := by
  have hL := eQ_01 c 16
  have hn : (eQ c 16).length ≤ 8 * n := by rw [eQ_all]; exact hm
  have h1 : vK (packL (eQ c 16) n) 0 2 = 1 := item_get (A := []) (qG c (k := 0) (by omega)) hL hn (by omega) (by rw [pw2]; omega)
  have hg : ∀ k, k < 4 → vK (packL (eQ c 16) n) (2 + 2 * k) 2 = Ac c k := fun k hk => by
    have := item_get (A := eG c k) (v := Ac c k) (K := 2) (qG c (k := k + 1) (by omega)) hL hn (hr.g k hk).1 (by rw [pw2]; have := (hr.g k hk).2; omega)
    rwa [eG_len] at this
  have h2 : vK (packL (eQ c 16) n) 10 2 = (Nc c : Int) := by
    have := item_get (A := eG c 4) (v := (Nc c : Int)) (K := 2) (qT c (k := 0) (by omega)) hL hn (by omega) (by rw [pw2]; have := hr.n; omega)
    rwa [eG_len] at this
  have hN : cnt (packL (eQ c 16) n) = Nc c := by unfold cnt; rw [h2, Int.toNat_natCast]
  have ht0 : ∀ k, k < Nc c → vK (packL (eQ c 16) n) (12 + 28 * k) 4 = (Tc c).getD (k * 2) 0 := fun k hk => by
    obtain ⟨⟨a1, a2⟩, _, _⟩ := hr.t k hk
    have := item_get (A := eT c k) (v := (Tc c).getD (k * 2) 0) (K := 4) ((List.prefix_append _ _).trans (qT c (k := k + 1) (by omega))) hL hn a1 (by rw [pw4]; omega)
    rwa [eT_len] at this
  have ht1 : ∀ k, k < Nc c → sV (vK (packL (eQ c 16) n) (12 + 28 * k + 4) 24) 24 = (Tc c).getD (k * 2 + 1) 0 := fun k hk => by
    obtain ⟨_, a3, _⟩ := hr.t k hk
    have hv := fit_vl (by omega) a3
    have := item_get (A := eT c k ++ topL ((Tc c).getD (k * 2) 0) 4 4) (v := vlI ((Tc c).getD (k * 2 + 1) 0) 24) (K := 24) (qT c (k := k + 1) (by omega)) hL hn hv.1 hv.2
    rw [List.length_append, eT_len, topL_len] at this
    rw [this]
    exact sV_val a3
  have hs : ∀ k, k < 4 → sc (packL (eQ c 16) n) k = Ac c (5 + k) := fun k hk => by
    have := item_get (A := eS c k) (v := Ac c (5 + k)) (K := 5) ((List.prefix_append _ _).trans (qS c (k := k + 1) (by omega))) hL hn (hr.s k hk).1 (by rw [pw5]; have := (hr.s k hk).2; omega)
    unfold sc
    rw [hN]
    rwa [eS_len] at this
  have hw : ∀ k, k < 4 → wd (packL (eQ c 16) n) k = Ac c (9 + k) := fun k hk => by
    have := item_get (A := eS c k ++ topL (Ac c (5 + k)) 5 5) (v := Ac c (9 + k)) (K := 5) (qS c (k := k + 1) (by omega)) hL hn (hr.w k hk).1 (by rw [pw5]; have := (hr.w k hk).2; omega)
    unfold wd
    rw [hN]
    rwa [List.length_append, eS_len, topL_len] at this
  have hp : ∀ k, k ≤ 16 → ps (packL (eQ c 16) n) k = 52 + 28 * Nc c + wsum c k := by
    intro k
    induction k with
    | zero => intro _; unfold ps wsum; rw [hN, Nat.add_zero]
    | succ k ih => intro hk; unfold ps wsum; rw [ih (by omega), hw (k / 4) (by omega)]; unfold wq; omega
  refine ⟨h1, hg, hN, ht0, ht1, hs, hw, hp, fun k hk => ?_⟩
  have hf := hr.q k hk
  have hb := (hr.w (k / 4) (by omega)).2
  have hf : fitP (Ac c (13 + k)) (wq c k) = true := hf
  have hv := fit_vl (k := wq c k) (by unfold wq; omega) hf
  have := item_get (A := eQ c k) (v := vlI (Ac c (13 + k)) (wq c k)) (K := wq c k) (qQ c (k := k + 1) (by omega)) hL hn hv.1 hv.2
  rw [eQ_len] at this
  unfold qv
  rw [hw (k / 4) (by omega), hp k (by omega)]
  show sV (vK (packL (eQ c 16) n) (52 + 28 * Nc c + wsum c k) (wq c k)) (wq c k) = _
  rw [this]
  exact sV_val hf
theorem tl_get (B : List Int) : ∀ m k, k < m → (tl B m).getD (k * 2) 0 = vK B (12 + 28 * k) 4 ∧ (tl B m).getD (k * 2 + 1) 0 = sV (vK B (12 + 28 * k + 4) 24) 24
  | 0, k, h => absurd h (Nat.not_lt_zero k)
  | m + 1, k, h => by
    have hl := tl_len B m
    by_cases c : k < m
    · have := tl_get B m k c
      unfold tl
      rw [List.getD_eq_getElem?_getD, List.getD_eq_getElem?_getD, List.getElem?_append_left (by omega), List.getElem?_append_left (by omega), ← List.getD_eq_getElem?_getD, ← List.getD_eq_getElem?_getD]
      exact this
    · obtain rfl : k = m := by omega
      unfold tl
      rw [List.getD_eq_getElem?_getD, List.getD_eq_getElem?_getD, List.getElem?_append_right (by omega), List.getElem?_append_right (by omega), hl, Nat.sub_self, Nat.add_sub_cancel_left]
      exact ⟨rfl, rfl⟩
theorem dec_eqv {c : List NC} (hc : WF c) {B : List Int} (h : Dec c B) : Eqv c (nfr (fB B) (tl B (cnt B))) := by
  refine ⟨fun j hj h4 => ?_, ?_⟩
  · rw [nfr_a _ _ j hj h4]
    unfold fB
    by_cases c1 : j < 4
    · rw [if_pos c1, h.g j c1]
    rw [if_neg c1]
    by_cases c2 : j < 9
    · rw [if_pos c2, h.s (j - 5) (by omega), show 5 + (j - 5) = j by omega]
    rw [if_neg c2]
    by_cases c3 : j < 13
    · rw [if_pos c3, h.w (j - 9) (by omega), show 9 + (j - 9) = j by omega]
    rw [if_neg c3, h.q (j - 13) (by omega), show 13 + (j - 13) = j by omega]
  · show Tc c = tl B (cnt B)
    have hl := tl_len B (cnt B)
    rw [h.n] at hl ⊢
    refine List.ext_getElem (by rw [hl, hc.ton]) fun i h1 h2 => ?_
    have e1 : (Tc c)[i] = (Tc c).getD i 0 := by simp [List.getElem?_eq_getElem h1]
    have e2 : (tl B (Nc c))[i] = (tl B (Nc c)).getD i 0 := by simp [List.getElem?_eq_getElem h2]
    rw [e1, e2]
    have hk : i / 2 < Nc c := by rw [hl] at h2; omega
    obtain ⟨g0, g1⟩ := tl_get B (Nc c) (i / 2) hk
    rcases Nat.mod_two_eq_zero_or_one i with m | m
    · rw [show i / 2 * 2 = i by omega] at g0
      rw [g0, h.t0 _ hk, show i / 2 * 2 = i by omega]
    · rw [show i / 2 * 2 + 1 = i by omega] at g1
      rw [g1, h.t1 _ hk, show i / 2 * 2 + 1 = i by omega]
theorem eqv_nc {c d : List NC} (h : Eqv c d) : Nc c = Nc d := by unfold Nc; rw [h.t]
theorem eqv_rp {c d : List NC} (h : Eqv c d) (hr : RP c) : RP d := by
  have e : ∀ j, j < 29 → j ≠ 4 → Ac d j = Ac c j := fun j h1 h2 => (h.a j h1 h2).symm
  refine ⟨fun k hk => ?_, fun k hk => ?_, ?_, fun k hk => ?_, fun k hk => ?_, fun k hk => ?_⟩
  · rw [e k (by omega) (by omega)]; exact hr.g k hk
  · rw [← h.t]; exact hr.t k (by rw [eqv_nc h]; exact hk)
  · rw [← eqv_nc h]; exact hr.n
  · rw [e _ (by omega) (by omega)]; exact hr.s k hk
  · rw [e _ (by omega) (by omega)]; exact hr.w k hk
  · rw [e _ (by omega) (by omega), e _ (by omega) (by omega)]; exact hr.q k hk
theorem any_none {B : List Int} {a m : Nat} (h : ∀ j, j < m → bt B (a + j) = 0) : anyK B a m = false := by
  cases c : anyK B a m with
  | false => rfl
  | true =>
    obtain ⟨k, h1, h2, _⟩ := anyK_true B a m c
    rw [h k h1] at h2; cases h2
/-- A frame that may be is read again. -/
theorem fine_ok {c : List NC} (hc : WF c) (hr : RP c) {n : Nat} (hm : mC c ≤ 8 * n) : Fine (packL (eQ c 16) n) n := by
  have h := dec_ok hr hm
  have hp : ps (packL (eQ c 16) n) 16 = mC c := by rw [h.p 16 (by omega), ← eQ_len, eQ_all]
  refine ⟨⟨h.first, fun k hk => ?_, fun k hk => ?_, by omega⟩, any_none fun j hj => ?_, ?_⟩
  · rw [h.s k hk]; exact (hr.s k hk).2
  · rw [h.w k hk]; exact (hr.w k hk).2
  · rw [bt_pack (eQ_01 c 16) (by omega)]
    exact getD_none (by rw [eQ_all]; omega)
  · exact rB_iff.2 (eqv_rp (dec_eqv hc h) hr)
/-! ### Of bytes that are fine -/
theorem vK_div (B : List Int) (a : Nat) : ∀ d j, vK B a (j + d) / pw d = vK B a j
  | 0, j => by rw [Nat.add_zero, pw_0, Int.ediv_one]
  | d + 1, j => by
    have e : vK B a (j + (d + 1)) = 2 * vK B a (j + d) + bt B (a + (j + d)) := rfl
    have hb := bt_01 B (a + (j + d))
    rw [e, pw_succ, ← Int.ediv_ediv_of_nonneg (by omega), show (2 * vK B a (j + d) + bt B (a + (j + d))) / 2 = vK B a (j + d) by omega]
    exact vK_div B a d j
theorem bv_vK (B : List Int) (a : Nat) {K i : Nat} (h : i < K) : bv (vK B a K) (K - 1 - i) = bt B (a + i) := by
  unfold bv
  have := vK_div B a (K - 1 - i) (i + 1)
  rw [show i + 1 + (K - 1 - i) = K by omega] at this
  rw [this]
  have e : vK B a (i + 1) = 2 * vK B a i + bt B (a + i) := rfl
  have hb := bt_01 B (a + i)
  rw [e]; omega
def Sm (B A : List Int) : Prop := ∀ i, i < A.length → A.getD i 0 = bt B i
theorem sm_app {B A : List Int} (h : Sm B A) {v : Int} {K : Nat} (hv : v = vK B A.length K) : Sm B (A ++ topL v K K) := fun i hi => by
  by_cases c : i < A.length
  · rw [List.getD_eq_getElem?_getD, List.getElem?_append_left c, ← List.getD_eq_getElem?_getD]; exact h i c
  · rw [List.length_append, topL_len] at hi
    obtain ⟨k, rfl⟩ : ∃ k, i = A.length + k := ⟨i - A.length, by omega⟩
    rw [app_get, top_getD v K (by omega), hv, bv_vK B _ (by omega)]
theorem vl_sV {v : Int} {K : Nat} (h0 : 0 ≤ v) (h1 : v < pw K) : vlI (sV v K) K = v := by
  unfold vlI sV
  rw [Int.toNat_natCast]
  by_cases c : K = 0
  · subst c
    have : pw 0 = 1 := rfl
    rw [if_pos rfl, if_neg (by omega)]; omega
  · rw [if_neg c]
    by_cases d : pw (K - 1) ≤ v
    · rw [if_pos d, if_pos (by omega)]; omega
    · rw [if_neg d, if_neg (by omega)]
/-- Bytes that are fine are the frame's. -/
theorem back_ok {B : List Int} {n : Nat} (hB : ∀ x ∈ B, 0 ≤ x ∧ x ≤ 255) (hl : n ≤ B.length) (hf : Fine B n) : packL (eQ (nfr (fB B) (tl B (cnt B))) 16) n = List.take n B := by
  obtain ⟨hO, hA, hR⟩ := hf
  generalize hg : nfr (fB B) (tl B (cnt B)) = g at *
  have hT : Tc g = tl B (cnt B) := by rw [← hg]; rfl
  have hN : Nc g = cnt B := by unfold Nc; rw [hT, tl_len]; omega
  have ha : ∀ j, j < 29 → j ≠ 4 → Ac g j = fB B j := by rw [← hg]; exact nfr_a _ _
  have hw : ∀ k, k < 4 → Ac g (9 + k) = wd B k := fun k hk => by
    rw [ha _ (by omega) (by omega)]; unfold fB
    rw [if_neg (by omega), if_neg (by omega), if_pos (by omega), Nat.add_sub_cancel_left]
  have hwq : ∀ k, k < 16 → wq g k = (wd B (k / 4)).toNat := fun k hk => by unfold wq; rw [hw _ (by omega)]
  have hps : ∀ k, k ≤ 16 → ps B k = 52 + 28 * Nc g + wsum g k := by
    intro k
    induction k with
    | zero => intro _; unfold ps wsum; rw [hN, Nat.add_zero]
    | succ k ih => intro hk; unfold ps wsum; rw [ih (by omega), hwq k (by omega)]; omega
  have sG : ∀ k, k ≤ 4 → Sm B (eG g k) := by
    intro k
    induction k with
    | zero => intro _; exact sm_app (A := []) (fun i hi => by cases hi) hO.first.symm
    | succ k ih =>
      intro hk
      refine sm_app (ih (by omega)) ?_
      rw [eG_len, ha k (by omega) (by omega)]; unfold fB; rw [if_pos (by omega)]
  have sT : ∀ k, k ≤ Nc g → Sm B (eT g k) := by
    intro k
    induction k with
    | zero =>
      intro _
      refine sm_app (sG 4 (Nat.le_refl _)) ?_
      rw [eG_len, hN]; unfold cnt
      have := (vK_in B 10 2).1
      show ((vK B 10 2).toNat : Int) = vK B 10 2
      omega
    | succ k ih =>
      intro hk
      obtain ⟨t0, t1⟩ := tl_get B (cnt B) k (by omega)
      have hv := vK_in B (12 + 28 * k + 4) 24
      refine sm_app (sm_app (ih (by omega)) ?_) ?_
      · rw [eT_len, hT, t0]
      · rw [List.length_append, eT_len, topL_len, hT, t1]
        exact vl_sV hv.1 hv.2
  have sS : ∀ k, k ≤ 4 → Sm B (eS g k) := by
    intro k
    induction k with
    | zero => intro _; exact sT _ (Nat.le_refl _)
    | succ k ih =>
      intro hk
      refine sm_app (sm_app (ih (by omega)) ?_) ?_
      · rw [eS_len, ha _ (by omega) (by omega)]; unfold fB
        rw [if_neg (by omega), if_pos (by omega), Nat.add_sub_cancel_left, hN]; rfl
      · rw [List.length_append, eS_len, topL_len, hw k (by omega), hN]; rfl
  have sQ : ∀ k, k ≤ 16 → Sm B (eQ g k) := by
    intro k
    induction k with
    | zero => intro _; exact sS 4 (Nat.le_refl _)
    | succ k ih =>
      intro hk
      refine sm_app (ih (by omega)) ?_
      have hv := vK_in B (ps B k) (wd B (k / 4)).toNat
      rw [eQ_len, ← hps k (by omega), ha _ (by omega) (by omega), hwq k (by omega)]
      unfold fB
      rw [if_neg (by omega), if_neg (by omega), if_neg (by omega), Nat.add_sub_cancel_left]
      unfold qv
      exact vl_sV hv.1 hv.2
  have hlen : (eQ g 16).length = ps B 16 := by rw [eQ_len, hps 16 (by omega)]
  have hbit : ∀ i, i < 8 * n → (eQ g 16).getD i 0 = bt B i := fun i hi => by
    by_cases c : i < (eQ g 16).length
    · exact sQ 16 (Nat.le_refl _) i c
    · rw [getD_none (by omega)]
      have := anyK_false B _ _ hA (i - ps B 16) (by omega)
      rw [show ps B 16 + (i - ps B 16) = i by omega] at this
      exact this.symm
  refine List.ext_getElem (by rw [pack_len, List.length_take]; omega) fun j h1 h2 => ?_
  have hj : j < n := by rw [pack_len] at h1; exact h1
  have e1 : (packL (eQ g 16) n)[j]? = some (byteV (eQ g 16) j) := pack_get _ hj
  rw [List.getElem?_eq_getElem h1, Option.some.injEq] at e1
  have hx := hB _ (List.getElem_mem (show j < B.length by omega))
  have eb : ∀ s, s < 8 → (eQ g 16).getD (8 * j + s) 0 = B[j] / pw (7 - s) % 2 := fun s hs => by
    rw [hbit _ (by omega)]
    unfold bt
    rw [show (8 * j + s) / 8 = j by omega, show (8 * j + s) % 8 = s by omega, List.getD_eq_getElem?_getD, List.getElem?_eq_getElem (show j < B.length by omega)]; rfl
  rw [e1, List.getElem_take]
  have b0 := eb 0 (by omega)
  have b1 := eb 1 (by omega)
  have b2 := eb 2 (by omega)
  have b3 := eb 3 (by omega)
  have b4 := eb 4 (by omega)
  have b5 := eb 5 (by omega)
  have b6 := eb 6 (by omega)
  have b7 := eb 7 (by omega)
  generalize B[j] = x at *
  simp only [Nat.add_zero, Nat.sub_zero, Nat.reduceSub, pw_0, pw_1, pw_2, pw_3, pw_4, pw_5, pw_6, pw_7, Int.ediv_one] at b0 b1 b2 b3 b4 b5 b6 b7
  unfold byteV
  rw [b0, b1, b2, b3, b4, b5, b6, b7]
  omega
end Go.Proofs.Ytdngjlgbebmbhaa
