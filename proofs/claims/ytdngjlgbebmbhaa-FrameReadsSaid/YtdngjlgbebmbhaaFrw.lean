/-
  A frame that may be, as bits and as bytes: the program's and the document's. Conditions: none.
-/
import Derived.Test.YtdngjlgbebmbhaaDecJ
import Derived.Test.YtdngjlgbebmbhaaFrb
namespace Go.Proofs.Ytdngjlgbebmbhaa
open Go Go.Sx G J
set_option maxRecDepth 100000
set_option linter.unusedVariables false
set_option linter.unusedSimpArgs false
attribute [local simp] asI_i asB_b asL_l asN_n asS_s asE_nil altK_none altK_0 altK_1 altK_2 altK_3 optK_some optK_none Bool.cond_decide Bool.cond_not Int.toNat_natCast
set_option linter.unusedSimpArgs false
theorem putX {v : Int} {K : Nat} {A : List Int} (hA : B01 A) (hl : A.length ≤ 90000) (h0 : 0 ≤ v) (h1 : v < pw K) (hK : K ≤ 57) : ∃ j, (j = 1 ∨ j = 2) ∧
    g25 (1, [.i v, .i (K : Int), .n ((A.length + 7) / 8), .i (A.length : Int), .i 0, .l (packL A ((A.length + 7) / 8))]) = some (j, [.n (((A ++ topL v K K).length + 7) / 8), .i ((A ++ topL v K K).length : Int), .i 0, .l (packL (A ++ topL v K K) (((A ++ topL v K K).length + 7) / 8))]) := by
  have hp := pw_57 hK
  obtain ⟨j, hj, h⟩ := put1 h0 (by omega) hA hl 0 (K : Int)
  have e : wput A 0 (K : Int) v = (A ++ topL v K K, 0) := by
    unfold wput
    rw [if_neg (by omega), if_neg (by rw [Int.toNat_natCast]; omega), Int.toNat_natCast]
  rw [e] at h
  exact ⟨j, hj, h⟩
theorem sgnX {V : Int} {K : Nat} {A : List Int} (hA : B01 A) (hl : A.length ≤ 90000) (hf : fitP V K = true) (hK : K ≤ 57) : ∃ j, (j = 1 ∨ j = 2) ∧
    g26 (1, [.i V, .i (K : Int), .n ((A.length + 7) / 8), .i (A.length : Int), .i 0, .l (packL A ((A.length + 7) / 8))]) = some (j, [.n (((A ++ topL (vlI V K) K K).length + 7) / 8), .i ((A ++ topL (vlI V K) K K).length : Int), .i 0, .l (packL (A ++ topL (vlI V K) K K) (((A ++ topL (vlI V K) K K).length + 7) / 8))]) := by
  have hb : -9223372036854775808 ≤ V ∧ V ≤ 9223372036854775807 := by
    unfold fitP at hf
    by_cases c : K = 0
    · rw [if_pos c] at hf; simp at hf; omega
    · rw [if_neg c] at hf; simp at hf; have := pw_57 (k := K - 1) (by omega); omega
  obtain ⟨j, hj, h⟩ := sgn1 hA hl 0 V (K : Int) hb.1 hb.2
  have ok : okI true V (K : Int) = true := by
    unfold okI
    rw [if_neg (by omega), if_neg (by omega), if_pos rfl, Int.toNat_natCast]; exact hf
  have e : wlay A 0 true V (K : Int) = (A ++ topL (vlI V K) K K, 0) := by
    unfold wlay
    rw [if_neg (by omega), if_pos ok, Int.toNat_natCast]
  rw [e] at h
  exact ⟨j, hj, h⟩
/-! ### A frame's bits -/
def eG (c : List NC) : Nat → List Int
  | 0 => topL 1 2 2
  | k + 1 => eG c k ++ topL (Ac c k) 2 2
def eT (c : List NC) : Nat → List Int
  | 0 => eG c 4 ++ topL (Nc c : Int) 2 2
  | k + 1 => (eT c k ++ topL ((Tc c).getD (k * 2) 0) 4 4) ++ topL (vlI ((Tc c).getD (k * 2 + 1) 0) 24) 24 24
def eS (c : List NC) : Nat → List Int
  | 0 => eT c (Nc c)
  | k + 1 => (eS c k ++ topL (Ac c (5 + k)) 5 5) ++ topL (Ac c (9 + k)) 5 5
def wq (c : List NC) (k : Nat) : Nat := (Ac c (9 + k / 4)).toNat
def eQ (c : List NC) : Nat → List Int
  | 0 => eS c 4
  | k + 1 => eQ c k ++ topL (vlI (Ac c (13 + k)) (wq c k)) (wq c k) (wq c k)
theorem eG_01 (c : List NC) : ∀ k, B01 (eG c k)
  | 0 => topL_01 _ _ _
  | k + 1 => b01_app (eG_01 c k) (topL_01 _ _ _)
theorem eT_01 (c : List NC) : ∀ k, B01 (eT c k)
  | 0 => b01_app (eG_01 c 4) (topL_01 _ _ _)
  | k + 1 => b01_app (b01_app (eT_01 c k) (topL_01 _ _ _)) (topL_01 _ _ _)
theorem eS_01 (c : List NC) : ∀ k, B01 (eS c k)
  | 0 => eT_01 c _
  | k + 1 => b01_app (b01_app (eS_01 c k) (topL_01 _ _ _)) (topL_01 _ _ _)
theorem eQ_01 (c : List NC) : ∀ k, B01 (eQ c k)
  | 0 => eS_01 c _
  | k + 1 => b01_app (eQ_01 c k) (topL_01 _ _ _)
theorem eG_len (c : List NC) : ∀ k, (eG c k).length = 2 + 2 * k
  | 0 => topL_len _ _ _
  | k + 1 => by unfold eG; rw [List.length_append, eG_len c k, topL_len]; omega
theorem eT_len (c : List NC) : ∀ k, (eT c k).length = 12 + 28 * k
  | 0 => by unfold eT; rw [List.length_append, eG_len, topL_len]
  | k + 1 => by unfold eT; rw [List.length_append, List.length_append, eT_len c k, topL_len, topL_len]; omega
theorem eS_len (c : List NC) : ∀ k, (eS c k).length = 12 + 28 * Nc c + 10 * k
  | 0 => eT_len c _
  | k + 1 => by unfold eS; rw [List.length_append, List.length_append, eS_len c k, topL_len, topL_len]; omega
def wsum (c : List NC) : Nat → Nat
  | 0 => 0
  | k + 1 => wsum c k + wq c k
theorem eQ_len (c : List NC) : ∀ k, (eQ c k).length = 52 + 28 * Nc c + wsum c k
  | 0 => by unfold eQ wsum; rw [eS_len]; omega
  | k + 1 => by unfold eQ wsum; rw [List.length_append, eQ_len c k, topL_len]; omega
theorem wsum_le {c : List NC} (hr : RP c) : ∀ k, k ≤ 16 → wsum c k ≤ 24 * k
  | 0, _ => Nat.le_refl _
  | k + 1, hk => by have := wsum_le hr k (by omega); have := hr.w (k / 4) (by omega); unfold wsum wq; omega
theorem eQ_all (c : List NC) : (eQ c 16).length = mC c := by
  rw [eQ_len]
  show 52 + 28 * Nc c + ((((((((((((((((0 + wq c 0) + wq c 1) + wq c 2) + wq c 3) + wq c 4) + wq c 5) + wq c 6) + wq c 7) + wq c 8) + wq c 9) + wq c 10) + wq c 11) + wq c 12) + wq c 13) + wq c 14) + wq c 15) = _
  have e : ∀ k, wq c k = wc c (k / 4) := fun k => rfl
  unfold mC
  rw [e 0, e 1, e 2, e 3, e 4, e 5, e 6, e 7, e 8, e 9, e 10, e 11, e 12, e 13, e 14, e 15]
  show 52 + 28 * Nc c + ((((((((((((((((0 + wc c 0) + wc c 0) + wc c 0) + wc c 0) + wc c 1) + wc c 1) + wc c 1) + wc c 1) + wc c 2) + wc c 2) + wc c 2) + wc c 2) + wc c 3) + wc c 3) + wc c 3) + wc c 3) = _
  omega
theorem pw2 : pw 2 = 4 := rfl
theorem pw4 : pw 4 = 16 := rfl
theorem pw5 : pw 5 = 32 := rfl
/-! ### The loops -/
theorem lG (c : List NC) (hc : WF c) (hr : RP c) (size : Int) : L19_0 (0, [.i size, .i 0, .x c, .n (((eG c 0).length + 7) / 8), .i ((eG c 0).length : Int), .i 0, .l (packL (eG c 0) (((eG c 0).length + 7) / 8))]) = some (0, [.i size, .x c, .n (((eG c 4).length + 7) / 8), .i ((eG c 4).length : Int), .i 0, .l (packL (eG c 4) (((eG c 4).length + 7) / 8))]) := by
  refine loop1_run (fun k => [.i size, .i (k : Int), .x c, .n (((eG c k).length + 7) / 8), .i ((eG c k).length : Int), .i 0, .l (packL (eG c k) (((eG c k).length + 7) / 8))]) 4 (fun k hk => ?_) ?_ (by omega)
  · have hx := getc hc.len (j := k) (by omega)
    have hg := hr.g k hk
    have ha : (c.getD k ⟨0, []⟩).i = Ac c k := rfl
    have hs := get_some (l := sub4 c 0) (i := k) (by rw [sub4_len hc.len (by omega)]; exact hk)
    rw [sub4_get hc.len (by omega) hk, Nat.zero_add] at hs
    have hw : IntKind.u64.wrap (Ac c k) = Ac c k := wrapU (by omega) (by omega)
    have w2 : IntKind.i64.wrap ((k : Int) + 1) = ((k + 1 : Nat) : Int) := wrap_nat (n := k + 1) (by omega)
    have c1 : (k : Int) < 4 := by omega
    have c2 : (0 : Int) ≤ k := by omega
    have m1 : k % 29 < 4 := by omega
    obtain ⟨j, hj, h⟩ := putX (K := 2) (eG_01 c k) (by rw [eG_len]; omega) hg.1 (by rw [pw2]; omega) (by omega)
    have h : g25 (1, [.i (Ac c k), .i 2, .n (((eG c k).length + 7) / 8), .i ((eG c k).length : Int), .i 0, .l (packL (eG c k) (((eG c k).length + 7) / 8))]) = some (j, [.n (((eG c (k + 1)).length + 7) / 8), .i ((eG c (k + 1)).length : Int), .i 0, .l (packL (eG c (k + 1)) (((eG c (k + 1)).length + 7) / 8))]) := h
    rcases hj with rfl | rfl <;> simp -implicitDefEqProofs only [f19_0, f19_0_0, asI_i, asN_n, asL_l, asB_b, asX_x, asE_nil, ↓y1, y2, y3, y4, y5, y6, ↓reduceIte, y7, y8, y9, ya, yb, yc, yd, ye, yf, yg, yh, yi, yj, yk, optK_some, altK_0, altK_1, altK_2, c1, c2, m1, hx, hs, ha, hw, h, w2]
  · have c1 : ¬ ((4 : Nat) : Int) < 4 := by omega
    simp -implicitDefEqProofs only [f19_0, f19_0_0, asI_i, asN_n, asL_l, asB_b, asX_x, asE_nil, ↓y1, y2, y3, y4, y5, y6, ↓reduceIte, y7, y8, y9, ya, yb, yc, yd, ye, yf, yg, yh, yi, yj, yk, optK_some, altK_0, altK_1, altK_2, c1]
theorem lT (c : List NC) (hc : WF c) (hr : RP c) (size : Int) : L19_1 (0, [.i size, .i 0, .x c, .n (((eT c 0).length + 7) / 8), .i ((eT c 0).length : Int), .i 0, .l (packL (eT c 0) (((eT c 0).length + 7) / 8))]) = some (0, [.i size, .x c, .n (((eT c (Nc c)).length + 7) / 8), .i ((eT c (Nc c)).length : Int), .i 0, .l (packL (eT c (Nc c)) (((eT c (Nc c)).length + 7) / 8))]) := by
  refine loop1_run (fun k => [.i size, .i (k : Int), .x c, .n (((eT c k).length + 7) / 8), .i ((eT c k).length : Int), .i 0, .l (packL (eT c k) (((eT c k).length + 7) / 8))]) (Nc c) (fun k hk => ?_) ?_ (by have := hc.few; omega)
  · have hf := hc.few
    have x4 := getc hc.len (j := 4) (by omega)
    have t4 : (c.getD 4 ⟨0, []⟩).l = Tc c := rfl
    have t5 : List.length (Tc c) / 2 = Nc c := rfl
    obtain ⟨⟨a1, a2⟩, a3, _⟩ := hr.t k hk
    have c3 : k * 2 + 2 ≤ (Tc c).length := by rw [hc.ton]; omega
    have cl := cT_len (h := Tc c) (k := k) c3
    have q0 := cT_0 (h := Tc c) (k := k) c3
    have q1 := cT_1 (h := Tc c) (k := k) c3
    have r0 := get_some (l := Tc c) (i := k * 2) (by omega)
    have r1 := get_some (l := Tc c) (i := k * 2 + 1) (by omega)
    have hw : IntKind.u64.wrap ((Tc c).getD (k * 2) 0) = (Tc c).getD (k * 2) 0 := wrapU a1 (by omega)
    have w2 : IntKind.i64.wrap ((k : Int) + 1) = ((k + 1 : Nat) : Int) := wrap_nat (n := k + 1) (by omega)
    have c1 : (k : Int) < (Nc c : Int) := by omega
    have c2 : (0 : Int) ≤ k := by omega
    obtain ⟨j, hj, h⟩ := putX (K := 4) (eT_01 c k) (by rw [eT_len]; omega) a1 (by rw [pw4]; omega) (by omega)
    have h : g25 (1, [.i ((Tc c).getD (k * 2) 0), .i 4, .n (((eT c k).length + 7) / 8), .i ((eT c k).length : Int), .i 0, .l (packL (eT c k) (((eT c k).length + 7) / 8))]) = some (j, [.n (((eT c k ++ topL ((Tc c).getD (k * 2) 0) 4 4).length + 7) / 8), .i ((eT c k ++ topL ((Tc c).getD (k * 2) 0) 4 4).length : Int), .i 0, .l (packL (eT c k ++ topL ((Tc c).getD (k * 2) 0) 4 4) (((eT c k ++ topL ((Tc c).getD (k * 2) 0) 4 4).length + 7) / 8))]) := h
    obtain ⟨j', hj', h'⟩ := sgnX (K := 24) (b01_app (eT_01 c k) (topL_01 ((Tc c).getD (k * 2) 0) 4 4)) (by rw [List.length_append, eT_len, topL_len]; omega) a3 (by omega)
    have h' : g26 (1, [.i ((Tc c).getD (k * 2 + 1) 0), .i 24, .n (((eT c k ++ topL ((Tc c).getD (k * 2) 0) 4 4).length + 7) / 8), .i ((eT c k ++ topL ((Tc c).getD (k * 2) 0) 4 4).length : Int), .i 0, .l (packL (eT c k ++ topL ((Tc c).getD (k * 2) 0) 4 4) (((eT c k ++ topL ((Tc c).getD (k * 2) 0) 4 4).length + 7) / 8))]) = some (j', [.n (((eT c (k + 1)).length + 7) / 8), .i ((eT c (k + 1)).length : Int), .i 0, .l (packL (eT c (k + 1)) (((eT c (k + 1)).length + 7) / 8))]) := h'
    generalize (Tc c).getD (k * 2) 0 = u at *
    generalize (Tc c).getD (k * 2 + 1) 0 = v at *
    generalize c.getD 4 ⟨0, []⟩ = z at *
    rcases hj with rfl | rfl <;> rcases hj' with rfl | rfl <;> simp -implicitDefEqProofs only [f19_1, f19_1_0, asI_i, asN_n, asL_l, asB_b, asX_x, asE_nil, ↓y1, y2, y3, y4, y5, y6, ↓reduceIte, y7, y8, y9, ya, yb, yc, yd, ye, yf, yg, yh, yi, yj, yk, optK_some, altK_0, altK_1, altK_2, c1, c2, c3, cl, d2, q0, q1, r0, r1, x4, t4, t5, hw, h, h', w2]
  · have x4 := getc hc.len (j := 4) (by omega)
    have t4 : (c.getD 4 ⟨0, []⟩).l = Tc c := rfl
    have t5 : List.length (Tc c) / 2 = Nc c := rfl
    have c1 : ¬ (Nc c : Int) < (Nc c : Int) := Int.lt_irrefl _
    simp -implicitDefEqProofs only [f19_1, f19_1_0, asI_i, asN_n, asL_l, asB_b, asX_x, asE_nil, ↓y1, y2, y3, y4, y5, y6, ↓reduceIte, y7, y8, y9, ya, yb, yc, yd, ye, yf, yg, yh, yi, yj, yk, optK_some, altK_0, altK_1, altK_2, c1, x4, t4, t5]
theorem lS (c : List NC) (hc : WF c) (hr : RP c) (size : Int) : L19_2 (0, [.i size, .i 0, .x c, .n (((eT c (Nc c)).length + 7) / 8), .i ((eT c (Nc c)).length : Int), .i 0, .l (packL (eT c (Nc c)) (((eT c (Nc c)).length + 7) / 8))]) = some (0, [.i size, .x c, .n (((eS c 4).length + 7) / 8), .i ((eS c 4).length : Int), .i 0, .l (packL (eS c 4) (((eS c 4).length + 7) / 8))]) := by
  refine loop1_run (fun k => [.i size, .i (k : Int), .x c, .n (((eS c k).length + 7) / 8), .i ((eS c k).length : Int), .i 0, .l (packL (eS c k) (((eS c k).length + 7) / 8))]) 4 (fun k hk => ?_) ?_ (by omega)
  · have hf := hc.few
    have x5 := getc hc.len (j := 5 + k) (by omega)
    have x9 := getc hc.len (j := 9 + k) (by omega)
    have a5 : (c.getD (5 + k) ⟨0, []⟩).i = Ac c (5 + k) := rfl
    have a9 : (c.getD (9 + k) ⟨0, []⟩).i = Ac c (9 + k) := rfl
    have hs := hr.s k hk
    have hw := hr.w k hk
    have e5 : k + 5 = 5 + k := Nat.add_comm _ _
    have e9 : k + 9 = 9 + k := Nat.add_comm _ _
    have u5 : IntKind.u64.wrap (Ac c (5 + k)) = Ac c (5 + k) := wrapU hs.1 (by omega)
    have u9 : IntKind.u64.wrap (Ac c (9 + k)) = Ac c (9 + k) := wrapU hw.1 (by omega)
    have w2 : IntKind.i64.wrap ((k : Int) + 1) = ((k + 1 : Nat) : Int) := wrap_nat (n := k + 1) (by omega)
    have c1 : (k : Int) < 4 := by omega
    have c2 : (0 : Int) ≤ k := by omega
    have m2 : ((5 + k) % 29 < 4) = False := eq_false (by omega)
    have m3 : ((5 + k) % 29 < 5) = False := eq_false (by omega)
    have m4 : ((9 + k) % 29 < 4) = False := eq_false (by omega)
    have m5 : ((9 + k) % 29 < 5) = False := eq_false (by omega)
    obtain ⟨j, hj, h⟩ := putX (K := 5) (eS_01 c k) (by rw [eS_len]; omega) hs.1 (by rw [pw5]; omega) (by omega)
    have h : g25 (1, [.i (Ac c (5 + k)), .i 5, .n (((eS c k).length + 7) / 8), .i ((eS c k).length : Int), .i 0, .l (packL (eS c k) (((eS c k).length + 7) / 8))]) = some (j, [.n (((eS c k ++ topL (Ac c (5 + k)) 5 5).length + 7) / 8), .i ((eS c k ++ topL (Ac c (5 + k)) 5 5).length : Int), .i 0, .l (packL (eS c k ++ topL (Ac c (5 + k)) 5 5) (((eS c k ++ topL (Ac c (5 + k)) 5 5).length + 7) / 8))]) := h
    obtain ⟨j', hj', h'⟩ := putX (K := 5) (b01_app (eS_01 c k) (topL_01 (Ac c (5 + k)) 5 5)) (by rw [List.length_append, eS_len, topL_len]; omega) hw.1 (by rw [pw5]; omega) (by omega)
    have h' : g25 (1, [.i (Ac c (9 + k)), .i 5, .n (((eS c k ++ topL (Ac c (5 + k)) 5 5).length + 7) / 8), .i ((eS c k ++ topL (Ac c (5 + k)) 5 5).length : Int), .i 0, .l (packL (eS c k ++ topL (Ac c (5 + k)) 5 5) (((eS c k ++ topL (Ac c (5 + k)) 5 5).length + 7) / 8))]) = some (j', [.n (((eS c (k + 1)).length + 7) / 8), .i ((eS c (k + 1)).length : Int), .i 0, .l (packL (eS c (k + 1)) (((eS c (k + 1)).length + 7) / 8))]) := h'
    generalize Ac c (5 + k) = u at *
    generalize Ac c (9 + k) = v at *
    rcases hj with rfl | rfl <;> rcases hj' with rfl | rfl <;> simp -implicitDefEqProofs only [f19_2, f19_2_0, asI_i, asN_n, asL_l, asB_b, asX_x, asE_nil, ↓y1, y2, y3, y4, y5, y6, ↓reduceIte, y7, y8, y9, ya, yb, yc, yd, ye, yf, yg, yh, yi, yj, yk, optK_some, altK_0, altK_1, altK_2, c1, c2, m2, m3, m4, m5, e5, e9, x5, x9, a5, a9, u5, u9, h, h', w2]
  · have c1 : ¬ ((4 : Nat) : Int) < 4 := by omega
    simp -implicitDefEqProofs only [f19_2, f19_2_0, asI_i, asN_n, asL_l, asB_b, asX_x, asE_nil, ↓y1, y2, y3, y4, y5, y6, ↓reduceIte, y7, y8, y9, ya, yb, yc, yd, ye, yf, yg, yh, yi, yj, yk, optK_some, altK_0, altK_1, altK_2, c1]
theorem lQ (c : List NC) (hc : WF c) (hr : RP c) (size : Int) : L19_3 (0, [.i size, .i 0, .x c, .n (((eS c 4).length + 7) / 8), .i ((eS c 4).length : Int), .i 0, .l (packL (eS c 4) (((eS c 4).length + 7) / 8))]) = some (0, [.i size, .x c, .n (((eQ c 16).length + 7) / 8), .i ((eQ c 16).length : Int), .i 0, .l (packL (eQ c 16) (((eQ c 16).length + 7) / 8))]) := by
  refine loop1_run (fun k => [.i size, .i (k : Int), .x c, .n (((eQ c k).length + 7) / 8), .i ((eQ c k).length : Int), .i 0, .l (packL (eQ c k) (((eQ c k).length + 7) / 8))]) 16 (fun k hk => ?_) ?_ (by omega)
  · have hf := hc.few
    have x13 := getc hc.len (j := 13 + k) (by omega)
    have x9 := getc hc.len (j := 9 + k / 4) (by omega)
    have a13 : (c.getD (13 + k) ⟨0, []⟩).i = Ac c (13 + k) := rfl
    have a9 : (c.getD (9 + k / 4) ⟨0, []⟩).i = Ac c (9 + k / 4) := rfl
    have hw := hr.w (k / 4) (by omega)
    have hq := hr.q k hk
    have ls : (List.map NC.i (List.take 16 (List.drop 13 c)))[k]? = some (Ac c (13 + k)) := by
      rw [List.getElem?_map, List.getElem?_take_of_lt hk, List.getElem?_drop, x13]; rfl
    have e13 : k + 13 = 13 + k := Nat.add_comm _ _
    have e9 : k / 4 + 9 = 9 + k / 4 := Nat.add_comm _ _
    have w2 : IntKind.i64.wrap ((k : Int) + 1) = ((k + 1 : Nat) : Int) := wrap_nat (n := k + 1) (by omega)
    have w3 : IntKind.i64.wrap (Int.tdiv (k : Int) 4) = ((k / 4 : Nat) : Int) := by rw [Int.tdiv_eq_ediv_of_nonneg (by omega), wrap64 (by omega) (by omega)]; omega
    have hb := trivial
    have c1 : (k : Int) < 16 := by omega
    have c2 : (0 : Int) ≤ k := by omega
    have c3 : ((k / 4 : Nat) : Int) < 4 := by omega
    have c4 : (0 : Int) ≤ ((k / 4 : Nat) : Int) := by omega
    have hm := Nat.mod_eq_of_lt (show 13 + k < 29 by omega)
    have hm2 := Nat.mod_eq_of_lt (show 9 + k / 4 < 29 by omega)
    have m2 : ((13 + k) % 29 < 4) = False := eq_false (by rw [hm]; omega)
    have m3 : ((13 + k) % 29 < 5) = False := eq_false (by rw [hm]; omega)
    have m4 : ((9 + k / 4) % 29 < 4) = False := eq_false (by rw [hm2]; omega)
    have m5 : ((9 + k / 4) % 29 < 5) = False := eq_false (by rw [hm2]; omega)
    have hsum := wsum_le hr k (by omega)
    obtain ⟨j, hj, h⟩ := sgnX (K := wq c k) (eQ_01 c k) (by rw [eQ_len]; omega) hq (by unfold wq; omega)
    rw [show ((wq c k : Nat) : Int) = Ac c (9 + k / 4) by unfold wq; omega] at h
    have h : g26 (1, [.i (Ac c (13 + k)), .i (Ac c (9 + k / 4)), .n (((eQ c k).length + 7) / 8), .i ((eQ c k).length : Int), .i 0, .l (packL (eQ c k) (((eQ c k).length + 7) / 8))]) = some (j, [.n (((eQ c (k + 1)).length + 7) / 8), .i ((eQ c (k + 1)).length : Int), .i 0, .l (packL (eQ c (k + 1)) (((eQ c (k + 1)).length + 7) / 8))]) := by
      have e : eQ c (k + 1) = eQ c k ++ topL (vlI (Ac c (13 + k)) (Ac c (9 + k / 4))) (wq c k) (wq c k) := by
        show eQ c k ++ topL (vlI (Ac c (13 + k)) ((wq c k : Nat) : Int)) (wq c k) (wq c k) = _
        rw [show ((wq c k : Nat) : Int) = Ac c (9 + k / 4) by unfold wq; omega]
      rw [e]; exact h
    generalize Ac c (13 + k) = u at *
    generalize Ac c (9 + k / 4) = v at *
    rcases hj with rfl | rfl <;> simp -implicitDefEqProofs only [f19_3, f19_3_0, asI_i, asN_n, asL_l, asB_b, asX_x, asE_nil, ↓y1, y2, y3, y4, y5, y6, ↓reduceIte, y7, y8, y9, ya, yb, yc, yd, ye, yf, yg, yh, yi, yj, yk, optK_some, altK_0, altK_1, altK_2, c1, c2, c3, c4, m2, m3, m4, m5, e13, e9, x13, x9, a13, a9, w3, hb, ls, h, w2]
  · have c1 : ¬ ((16 : Nat) : Int) < 16 := by omega
    simp -implicitDefEqProofs only [f19_3, f19_3_0, asI_i, asN_n, asL_l, asB_b, asX_x, asE_nil, ↓y1, y2, y3, y4, y5, y6, ↓reduceIte, y7, y8, y9, ya, yb, yc, yd, ye, yf, yg, yh, yi, yj, yk, optK_some, altK_0, altK_1, altK_2, c1]
/-! ### All of it -/
theorem lbytes (c : List NC) (hc : WF c) (hr : RP c) (size : Int) (hs : size ≤ 1000) (h0 : 0 ≤ size) (hm : (mC c : Int) ≤ 8 * size) : g19 (0, [.x c, .i size]) = some (0, [.n size.toNat, .l (packL (eQ c 16) size.toNat)]) := by
  have p0 := put0 (v := 1) (by omega) (by omega) 0 2
  have p0 : g25 (0, [.i 1, .i 2, .i 0, .i 0]) = some (1, [.n (((eG c 0).length + 7) / 8), .i ((eG c 0).length : Int), .i 0, .l (packL (eG c 0) (((eG c 0).length + 7) / 8))]) := p0
  have hn := hr.n
  have un : IntKind.u64.wrap (Nc c : Int) = (Nc c : Int) := wrapU (by omega) (by omega)
  obtain ⟨j, hj, h⟩ := putX (v := (Nc c : Int)) (K := 2) (eG_01 c 4) (by rw [eG_len]; omega) (by omega) (by rw [pw2]; omega) (by omega)
  have h : g25 (1, [.i (Nc c : Int), .i 2, .n (((eG c 4).length + 7) / 8), .i ((eG c 4).length : Int), .i 0, .l (packL (eG c 4) (((eG c 4).length + 7) / 8))]) = some (j, [.n (((eT c 0).length + 7) / 8), .i ((eT c 0).length : Int), .i 0, .l (packL (eT c 0) (((eT c 0).length + 7) / 8))]) := h
  have x4 := getc hc.len (j := 4) (by omega)
  have t4 : (c.getD 4 ⟨0, []⟩).l = Tc c := rfl
  have t5 : List.length (Tc c) / 2 = Nc c := rfl
  have hb := byts1 (eQ c 16) size 0 hs
  rw [if_neg (show ¬ (0 : Int) ≠ 0 by omega), eQ_all] at hb
  rw [if_neg (by omega), if_neg (by omega)] at hb
  have hb : g27 (1, [.i size, .n (((eQ c 16).length + 7) / 8), .i ((eQ c 16).length : Int), .i 0, .l (packL (eQ c 16) (((eQ c 16).length + 7) / 8))]) = some (2, [.n size.toNat, .i 0, .n (((eQ c 16).length + 7) / 8), .i ((eQ c 16).length : Int), .i 0, .l (packL (eQ c 16) (((eQ c 16).length + 7) / 8)), .l (packL (eQ c 16) size.toNat)]) := hb
  rcases hj with rfl | rfl <;> simp -implicitDefEqProofs only [g19, g19_0, asI_i, asN_n, asL_l, asB_b, asX_x, asE_nil, ↓y1, y2, y3, y4, y5, y6, ↓reduceIte, y7, y8, y9, ya, yb, yc, yd, ye, yf, yg, yh, yi, yj, yk, optK_some, altK_0, altK_1, altK_2, p0, lG c hc hr size, x4, t4, t5, un, h, lT c hc hr size, lS c hc hr size, lQ c hc hr size, hb]
theorem take29 {c : List NC} (h : c.length = 29) : List.take 29 c = c := List.take_of_length_le (by omega)
end Go.Proofs.Ytdngjlgbebmbhaa
