/-
  What Read answers, of any bytes. Conditions: none.
-/
import Derived.Test.YtdngjlgbebmbhaaDecK
import Derived.Test.YtdngjlgbebmbhaaBr
import Derived.Test.YtdngjlgbebmbhaaFrb
namespace Go.Proofs.Ytdngjlgbebmbhaa
open Go Go.Sx G K
set_option maxRecDepth 100000
set_option linter.unusedVariables false
set_option linter.unusedSimpArgs false
attribute [local simp] asI_i asB_b asL_l asN_n asS_s asE_nil altK_none altK_0 altK_1 altK_2 altK_3 optK_some optK_none Bool.cond_decide Bool.cond_not Int.toNat_natCast
set_option linter.unusedSimpArgs false
/-! ### What stands where -/
def cnt (B : List Int) : Nat := (vK B 10 2).toNat
def sc (B : List Int) (k : Nat) : Int := vK B (12 + 28 * cnt B + 10 * k) 5
def wd (B : List Int) (k : Nat) : Int := vK B (12 + 28 * cnt B + 10 * k + 5) 5
def ps (B : List Int) : Nat → Nat
  | 0 => 52 + 28 * cnt B
  | k + 1 => ps B k + (wd B (k / 4)).toNat
def qv (B : List Int) (k : Nat) : Int := sV (vK B (ps B k) (wd B (k / 4)).toNat) (wd B (k / 4)).toNat
def tl (B : List Int) : Nat → List Int
  | 0 => []
  | k + 1 => tl B k ++ [vK B (12 + 28 * k) 4, sV (vK B (12 + 28 * k + 4) 24) 24]
def fB (B : List Int) (j : Nat) : Int := if j < 4 then vK B (2 + 2 * j) 2 else if j < 9 then sc B (j - 5) else if j < 13 then wd B (j - 9) else qv B (j - 13)
structure OKB (B : List Int) (n : Nat) : Prop where
  first : vK B 0 2 = 1
  sc : ∀ k, k < 4 → sc B k ≤ 23
  wd : ∀ k, k < 4 → wd B k ≤ 24
  len : ps B 16 ≤ 8 * n
theorem ps_mono (B : List Int) : ∀ d k, ps B k ≤ ps B (k + d)
  | 0, k => Nat.le_refl _
  | d + 1, k => Nat.le_trans (ps_mono B d k) (Nat.le_add_right _ _)
theorem ps_le (B : List Int) {k j : Nat} (h : k ≤ j) : ps B k ≤ ps B j := by
  have := ps_mono B (j - k) k
  rwa [show k + (j - k) = j by omega] at this
theorem ps_0 (B : List Int) : 52 + 28 * cnt B ≤ ps B 16 := ps_le B (k := 0) (by omega)
def E3 (e : Int) : Prop := e = 0 ∨ e = 2 ∨ e = 4
theorem tl_len (B : List Int) : ∀ k, (tl B k).length = k * 2
  | 0 => rfl
  | k + 1 => by unfold tl; rw [List.length_append, tl_len B k]; show k * 2 + 2 = _; omega
def stn (n : Nat) (B : List Int) (at_ : Nat) (e : Int) (a : Nat → Int) : List Leaf := [.i 0, .i 0, .i 0, .i 0, .i 0, .i 0, .i 0, .i 0, .i 0, .i 0, .i 0, .i 0, .i 0, .i 0, .i 0, .i 0, .i 0, .i 0, .i 0, .i 0, .i 0, .i 0, .i 0, .i 0, .i 0, .i 0, .i 0, .i 0, .n n, .l B, .i (at_ : Int), .i e, .i (a 0), .i (a 1), .i (a 2), .i (a 3), .i (a 5), .i (a 6), .i (a 7), .i (a 8), .i (a 9), .i (a 10), .i (a 11), .i (a 12), .i (a 13), .i (a 14), .i (a 15), .i (a 16), .i (a 17), .i (a 18), .i (a 19), .i (a 20), .i (a 21), .i (a 22), .i (a 23), .i (a 24), .i (a 25), .i (a 26), .i (a 27), .i (a 28)]
def sts (n : Nat) (B : List Int) (at_ : Nat) (e : Int) (a : Nat → Int) (N : Nat) (T : List Int) : List Leaf := [.i 0, .i 0, .i 0, .i 0, .i 0, .i 0, .i 0, .i 0, .i 0, .i 0, .i 0, .i 0, .i 0, .i 0, .i 0, .i 0, .i 0, .i 0, .i 0, .i 0, .i 0, .i 0, .i 0, .i 0, .i 0, .i 0, .i 0, .i 0, .n n, .l B, .i (at_ : Int), .i e, .i (a 0), .i (a 1), .i (a 2), .i (a 3), .n N, .i (a 5), .i (a 6), .i (a 7), .i (a 8), .i (a 9), .i (a 10), .i (a 11), .i (a 12), .i (a 13), .i (a 14), .i (a 15), .i (a 16), .i (a 17), .i (a 18), .i (a 19), .i (a 20), .i (a 21), .i (a 22), .i (a 23), .i (a 24), .i (a 25), .i (a 26), .i (a 27), .i (a 28), .l T]
section
variable (B : List Int) (n : Nat) (hB : ∀ x ∈ B, 0 ≤ x ∧ x ≤ 255) (hl : n ≤ B.length) (hn : n ≤ 1000)
include hB hl hn
theorem get_step (K : Nat) (hK : K ≤ 57) (at_ : Nat) (e : Int) (ha : at_ ≤ 8 * n) (he : E3 e) : ∃ (v : Int) (at' : Nat) (e' : Int), g32 (0, [.i (K : Int), .n n, .l B, .i (at_ : Int), .i e]) = some (0, [.i v, .n n, .l B, .i (at' : Int), .i e']) ∧ at' ≤ 8 * n ∧ E3 e' ∧
    (e' = 0 → e = 0 ∧ at_ + K ≤ 8 * n ∧ v = vK B at_ K ∧ at' = at_ + K) ∧ (e' ≠ 0 → (e ≠ 0 ∧ e' = e) ∨ (e = 0 ∧ 8 * n < at_ + K)) ∧ 0 ≤ v ∧ v < pw K := by
  have hp := pw_pos K
  by_cases h0 : e = 0
  · subst h0
    by_cases h1 : at_ + K ≤ 8 * n
    · have hv := vK_in B at_ K
      exact ⟨_, _, 0, get_ok B n hB hl hn at_ K hK h1, h1, .inl rfl, fun _ => ⟨rfl, h1, rfl, rfl⟩, fun h => absurd rfl h, hv.1, hv.2⟩
    · have ek : eK 0 (K : Int) ((8 * n - at_ : Nat) : Int) = 2 := eK_short (by omega) (by omega) (by omega)
      have h := get_bad B n at_ 0 K ha hn (by rw [ek]; omega)
      rw [ek] at h
      exact ⟨0, at_, 2, h, ha, .inr (.inl rfl), fun h => by omega, fun _ => .inr ⟨rfl, by omega⟩, by omega, by omega⟩
  · have ek : eK e (K : Int) ((8 * n - at_ : Nat) : Int) = e := eK_ne h0
    have h := get_bad B n at_ e K ha hn (by rw [ek]; exact h0)
    rw [ek] at h
    exact ⟨0, at_, e, h, ha, he, fun h => absurd h h0, fun _ => .inl ⟨h0, rfl⟩, by omega, by omega⟩
theorem sgn_step (K : Int) (at_ : Nat) (e : Int) (ha : at_ ≤ 8 * n) (he : E3 e) (hK : e = 0 → 0 ≤ K ∧ K ≤ 57) : ∃ (v : Int) (at' : Nat) (e' : Int), g34 (0, [.i K, .n n, .l B, .i (at_ : Int), .i e]) = some (0, [.i v, .n n, .l B, .i (at' : Int), .i e']) ∧ at' ≤ 8 * n ∧ E3 e' ∧
    (e' = 0 → e = 0 ∧ at_ + K.toNat ≤ 8 * n ∧ v = sV (vK B at_ K.toNat) K.toNat ∧ at' = at_ + K.toNat) ∧ (e' ≠ 0 → (e ≠ 0 ∧ e' = e) ∨ (e = 0 ∧ 8 * n < at_ + K.toNat)) := by
  by_cases h0 : e = 0
  · subst h0
    obtain ⟨k, rfl⟩ : ∃ k : Nat, K = k := ⟨K.toNat, by have := hK rfl; omega⟩
    have hk := hK rfl
    rw [Int.toNat_natCast]
    by_cases h1 : at_ + k ≤ 8 * n
    · exact ⟨_, _, 0, sg_ok B n hB hl hn at_ k (by omega) h1, h1, .inl rfl, fun _ => ⟨rfl, h1, rfl, rfl⟩, fun h => absurd rfl h⟩
    · have ek : eK 0 (k : Int) ((8 * n - at_ : Nat) : Int) = 2 := eK_short (by omega) (by omega) (by omega)
      have h := sg_bad B n at_ 0 k ha hn (by rw [ek]; omega)
      rw [ek] at h
      exact ⟨0, at_, 2, h, ha, .inr (.inl rfl), fun h => by omega, fun _ => .inr ⟨rfl, by omega⟩⟩
  · have ek : eK e K ((8 * n - at_ : Nat) : Int) = e := eK_ne h0
    have h := sg_bad B n at_ e K ha hn (by rw [ek]; exact h0)
    rw [ek] at h
    exact ⟨0, at_, e, h, ha, he, fun h => absurd h h0, fun _ => .inl ⟨h0, rfl⟩⟩
omit hB hl hn
theorem fail_step (at_ : Nat) (e : Int) : ∃ e', g33 (0, [.i 4, .n n, .l B, .i (at_ : Int), .i e]) = some (0, [.n n, .l B, .i (at_ : Int), .i e']) ∧ e' ≠ 0 ∧ (E3 e → E3 e') := by
  refine ⟨_, fail_ok B n 4 at_ e, ?_, ?_⟩
  · split <;> omega
  · intro h; split
    · exact .inr (.inr rfl)
    · exact h
/-! ### Gains -/
def G0 (k : Nat) (a : Nat → Int) (at_ : Nat) (e : Int) : Prop := at_ ≤ 8 * n ∧ E3 e ∧ (e = 0 → at_ = 2 + 2 * k ∧ vK B 0 2 = 1 ∧ ∀ j, j < k → a j = fB B j) ∧ (e ≠ 0 → ¬ OKB B n)
include hB hl hn
omit hB hl hn
def upd (a : Nat → Int) (i : Nat) (v : Int) (j : Nat) : Int := if j = i then v else a j
theorem upd_ne {a : Nat → Int} {i j : Nat} {v : Int} (h : j ≠ i) : upd a i v j = a j := if_neg h
theorem upd_eq {a : Nat → Int} {i j : Nat} {v : Int} (h : j = i) : upd a i v j = v := if_pos h
include hB hl hn
theorem s0 (k : Nat) (hk : k < 4) (a : Nat → Int) (at_ : Nat) (e : Int) (h : G0 B n k a at_ e) : ∃ (v : Int) (at' : Nat) (e' : Int), g32 (0, [.i 2, .n n, .l B, .i (at_ : Int), .i e]) = some (0, [.i v, .n n, .l B, .i (at' : Int), .i e']) ∧ IntKind.i64.wrap v = v ∧ G0 B n (k + 1) (upd a k v) at' e' := by
  obtain ⟨h1, h2, h3, h4⟩ := h
  obtain ⟨v, at', e', q1, q2, q3, q4, q5, q6, q7⟩ := get_step B n hB hl hn 2 (by omega) at_ e h1 h2
  have pw2' : pw 2 = 4 := rfl
  refine ⟨v, at', e', q1, wrap64 (by omega) (by omega), q2, q3, fun z => ?_, fun z hO => ?_⟩
  · obtain ⟨z1, z2, z3, z4⟩ := q4 z
    obtain ⟨y1, y2, y3⟩ := h3 z1
    subst y1
    refine ⟨by omega, y2, fun j hj => ?_⟩
    by_cases c : j = k
    · rw [upd_eq c, c, z3]; unfold fB; rw [if_pos hk]
    · rw [upd_ne c]; exact y3 j (by omega)
  · rcases q5 z with ⟨z1, z2⟩ | ⟨z1, z2⟩
    · exact h4 z1 hO
    · have := (h3 z1).1; have := hO.len; have := ps_0 B; omega
theorem r0_0 (a : Nat → Int) (at_ : Nat) (e : Int) (h : G0 B n 0 a at_ e) : ∃ (a' : Nat → Int) (at' : Nat) (e' : Int), f18_0 (0, stn n B at_ e a) = some (1, stn n B at' e' a') ∧ G0 B n 1 a' at' e' := by
  obtain ⟨v, at', e', q, w, g⟩ := s0 B n hB hl hn 0 (by omega) a at_ e h
  exact ⟨_, at', e', by simp -implicitDefEqProofs only [f18_0, f18_0_0, stn, upd, K.asI4_i, asI_i, asN_n, asL_l, asB_b, asE_nil, ↓Bool.cond_decide, ↓reduceIte, altK_0, altK_1, altK_2, altK_3, Nat.reduceEqDiff, q, w], g⟩
theorem r0_1 (a : Nat → Int) (at_ : Nat) (e : Int) (h : G0 B n 1 a at_ e) : ∃ (a' : Nat → Int) (at' : Nat) (e' : Int), f18_0 (1, stn n B at_ e a) = some (2, stn n B at' e' a') ∧ G0 B n 2 a' at' e' := by
  obtain ⟨v, at', e', q, w, g⟩ := s0 B n hB hl hn 1 (by omega) a at_ e h
  exact ⟨_, at', e', by simp -implicitDefEqProofs only [f18_0, f18_0_1, stn, upd, K.asI4_i, asI_i, asN_n, asL_l, asB_b, asE_nil, ↓Bool.cond_decide, ↓reduceIte, altK_0, altK_1, altK_2, altK_3, Nat.reduceEqDiff, q, w], g⟩
theorem r0_2 (a : Nat → Int) (at_ : Nat) (e : Int) (h : G0 B n 2 a at_ e) : ∃ (a' : Nat → Int) (at' : Nat) (e' : Int), f18_0 (2, stn n B at_ e a) = some (3, stn n B at' e' a') ∧ G0 B n 3 a' at' e' := by
  obtain ⟨v, at', e', q, w, g⟩ := s0 B n hB hl hn 2 (by omega) a at_ e h
  exact ⟨_, at', e', by simp -implicitDefEqProofs only [f18_0, f18_0_2, stn, upd, K.asI4_i, asI_i, asN_n, asL_l, asB_b, asE_nil, ↓Bool.cond_decide, ↓reduceIte, altK_0, altK_1, altK_2, altK_3, Nat.reduceEqDiff, q, w], g⟩
theorem r0_3 (a : Nat → Int) (at_ : Nat) (e : Int) (h : G0 B n 3 a at_ e) : ∃ (a' : Nat → Int) (at' : Nat) (e' : Int), f18_0 (3, stn n B at_ e a) = some (4, stn n B at' e' a') ∧ G0 B n 4 a' at' e' := by
  obtain ⟨v, at', e', q, w, g⟩ := s0 B n hB hl hn 3 (by omega) a at_ e h
  exact ⟨_, at', e', by simp -implicitDefEqProofs only [f18_0, f18_0_3, stn, upd, K.asI4_i, asI_i, asN_n, asL_l, asB_b, asE_nil, ↓Bool.cond_decide, ↓reduceIte, altK_0, altK_1, altK_2, altK_3, Nat.reduceEqDiff, q, w], g⟩
theorem run0 (a : Nat → Int) (at_ : Nat) (e : Int) (h : G0 B n 0 a at_ e) : ∃ (a' : Nat → Int) (at' : Nat) (e' : Int), L18_0 (0, stn n B at_ e a) = some (0, stn n B at' e' a') ∧ G0 B n 4 a' at' e' := by
  have ind := loopL_ind (m := 5) (f := f18_0) (fun s => ∃ (k : Nat) (a : Nat → Int) (at_ : Nat) (e : Int), k ≤ 4 ∧ G0 B n k a at_ e ∧ s = (k, stn n B at_ e a)) (fun s => 4 - s.1) (fun j r => j = 0 ∧ ∃ (a' : Nat → Int) (at' : Nat) (e' : Int), r = stn n B at' e' a' ∧ G0 B n 4 a' at' e') (fun s hs => ?_) (0, stn n B at_ e a) ⟨0, a, at_, e, by omega, h, rfl⟩ (by show 4 - _ < _; omega)
  · obtain ⟨j, r, h1, rfl, a', at', e', rfl, h2⟩ := ind
    exact ⟨a', at', e', h1, h2⟩
  · obtain ⟨k, a, at_, e, hk, hg, rfl⟩ := hs
    match k, hk, hg with
    | 0, _, hg =>
      obtain ⟨a', at', e', h1, h2⟩ := r0_0 B n hB hl hn a at_ e hg
      exact .inl ⟨_, h1, by show 1 < 5; omega, ⟨1, a', at', e', by omega, h2, rfl⟩, by show 4 - 1 < 4 - 0; omega⟩
    | 1, _, hg =>
      obtain ⟨a', at', e', h1, h2⟩ := r0_1 B n hB hl hn a at_ e hg
      exact .inl ⟨_, h1, by show 2 < 5; omega, ⟨2, a', at', e', by omega, h2, rfl⟩, by show 4 - 2 < 4 - 1; omega⟩
    | 2, _, hg =>
      obtain ⟨a', at', e', h1, h2⟩ := r0_2 B n hB hl hn a at_ e hg
      exact .inl ⟨_, h1, by show 3 < 5; omega, ⟨3, a', at', e', by omega, h2, rfl⟩, by show 4 - 3 < 4 - 2; omega⟩
    | 3, _, hg =>
      obtain ⟨a', at', e', h1, h2⟩ := r0_3 B n hB hl hn a at_ e hg
      exact .inl ⟨_, h1, by show 4 < 5; omega, ⟨4, a', at', e', by omega, h2, rfl⟩, by show 4 - 4 < 4 - 3; omega⟩
    | 4, _, hg =>
      refine .inr ⟨0, stn n B at_ e a, ?_, rfl, a, at_, e, rfl, hg⟩
      simp -implicitDefEqProofs only [f18_0, f18_0_4, stn, K.asI4_i, asI_i, asN_n, asL_l, asB_b, asX_x, asE_nil, ↓y1, y2, y3, y4, y5, y6, ↓reduceIte, altK_0, altK_1, altK_2, altK_3, yg, ye, yf, ya, Nat.reduceEqDiff, Nat.reduceAdd, if_true, if_false]
    | k + 5, hk, _ => omega
/-! ### Tones -/
omit hB hl hn
def G1 (a : Nat → Int) (c0 k : Nat) (T : List Int) (at_ : Nat) (e : Int) : Prop := at_ ≤ 8 * n ∧ E3 e ∧ T.length = k * 2 ∧ (e = 0 → at_ = 12 + 28 * k ∧ vK B 0 2 = 1 ∧ (∀ j, j < 4 → a j = fB B j) ∧ c0 = cnt B ∧ T = tl B k) ∧ (e ≠ 0 → ¬ OKB B n)
def s1 (a : Nat → Int) (c0 : Nat) (T : List Int) (at_ : Nat) (e : Int) : Nat → Nat × List Leaf
  | 0 => (0, .i (c0 : Int) :: .i 0 :: stn n B at_ e a)
  | k + 1 => (1, .i (c0 : Int) :: .i (((k + 1) : Nat) : Int) :: sts n B at_ e a (k + 1) T)
include hB hl hn
theorem r1_0 (a : Nat → Int) (c0 : Nat) (hc : c0 ≤ 3) (hk : 0 < c0) (T : List Int) (at_ : Nat) (e : Int) (h : G1 B n a c0 0 T at_ e) : ∃ (T' : List Int) (at' : Nat) (e' : Int), f18_1 (0, .i (c0 : Int) :: .i 0 :: stn n B at_ e a) = some (s1 B n a c0 T' at' e' (0 + 1)) ∧ G1 B n a c0 (0 + 1) T' at' e' := by
  obtain ⟨h1, h2, hT, h3, h4⟩ := h
  obtain ⟨v1, at1, e1, p1, p2, p3, p4, p5, p6, p7⟩ := get_step B n hB hl hn 4 (by omega) at_ e h1 h2
  have p1 : g32 (0, [.i 4, .n n, .l B, .i (at_ : Int), .i e]) = some (0, [.i v1, .n n, .l B, .i (at1 : Int), .i e1]) := p1
  obtain ⟨v2, at2, e2, q1, q2, q3, q4, q5⟩ := sgn_step B n hB hl hn 24 at1 e1 p2 p3 (fun _ => ⟨by omega, by omega⟩)
  have pw4' : pw 4 = 16 := rfl
  have w : IntKind.i64.wrap v1 = v1 := wrap64 (by omega) (by omega)
  have w2 : IntKind.u64.wrap ((0 : Int) + 1) = ((0 + 1 : Nat) : Int) := by rw [wrapU (by omega) (by omega)]; omega
  have c1 : (0 : Int) < (c0 : Int) := by omega
  refine ⟨[v1, v2], at2, e2, ?_, q2, q3, ?_, fun z => ?_, fun z hO => ?_⟩
  · show f18_1 (0, .i (c0 : Int) :: .i 0 :: stn n B at_ e a) = some (1, .i (c0 : Int) :: .i (((1) : Nat) : Int) :: sts n B at2 e2 a (1) [v1, v2])
    simp -implicitDefEqProofs only [f18_1, f18_1_0, stn, sts, K.asI4_i, asI_i, asN_n, asL_l, asB_b, asX_x, asE_nil, ↓y1, y2, y3, y4, y5, y6, ↓reduceIte, altK_0, altK_1, altK_2, altK_3, yg, ye, yf, ya, Nat.reduceEqDiff, Nat.reduceAdd, if_true, if_false, c1, p1, q1, w, w2]
  · rfl
  · obtain ⟨z1, z2, z3, z4⟩ := q4 z
    obtain ⟨x1, x2, x3, x4⟩ := p4 z1
    obtain ⟨y1, y2, y3, y4, y5⟩ := h3 x1
    refine ⟨by rw [z4, x4, y1]; show 12 + 28 * 0 + 4 + 24 = _; omega, y2, y3, y4, ?_⟩
    rw [y1] at x3
    rw [x4, y1] at z3
    rw [x3, z3]; rfl
  · rcases q5 z with ⟨z1, z2⟩ | ⟨z1, z2⟩
    · rcases p5 z1 with ⟨x1, x2⟩ | ⟨x1, x2⟩
      · exact h4 x1 hO
      · obtain ⟨y1, y2, y3, y4, y5⟩ := h3 x1
        have := hO.len; have := ps_0 B; omega
    · obtain ⟨x1, x2, x3, x4⟩ := p4 z1
      obtain ⟨y1, y2, y3, y4, y5⟩ := h3 x1
      have z2 : 8 * n < at1 + 24 := z2
      have := hO.len; have := ps_0 B; omega
theorem r1_1 (a : Nat → Int) (c0 k : Nat) (hc : c0 ≤ 3) (hk : (k + 1) < c0) (T : List Int) (at_ : Nat) (e : Int) (h : G1 B n a c0 (k + 1) T at_ e) : ∃ (T' : List Int) (at' : Nat) (e' : Int), f18_1 (1, .i (c0 : Int) :: .i (((k + 1) : Nat) : Int) :: sts n B at_ e a (k + 1) T) = some (s1 B n a c0 T' at' e' ((k + 1) + 1)) ∧ G1 B n a c0 ((k + 1) + 1) T' at' e' := by
  obtain ⟨h1, h2, hT, h3, h4⟩ := h
  obtain ⟨v1, at1, e1, p1, p2, p3, p4, p5, p6, p7⟩ := get_step B n hB hl hn 4 (by omega) at_ e h1 h2
  have p1 : g32 (0, [.i 4, .n n, .l B, .i (at_ : Int), .i e]) = some (0, [.i v1, .n n, .l B, .i (at1 : Int), .i e1]) := p1
  obtain ⟨v2, at2, e2, q1, q2, q3, q4, q5⟩ := sgn_step B n hB hl hn 24 at1 e1 p2 p3 (fun _ => ⟨by omega, by omega⟩)
  have pw4' : pw 4 = 16 := rfl
  have w : IntKind.i64.wrap v1 = v1 := wrap64 (by omega) (by omega)
  have w2 : IntKind.u64.wrap ((((k + 1 : Nat) : Int) : Int) + 1) = (((k + 1) + 1 : Nat) : Int) := by rw [wrapU (by omega) (by omega)]; omega
  have c1 : (((k + 1 : Nat) : Int) : Int) < (c0 : Int) := by omega
  have c3 : (k + 1 + 1) * 16 ≤ 70368744177664 := by omega
  refine ⟨T ++ [v1, v2], at2, e2, ?_, q2, q3, ?_, fun z => ?_, fun z hO => ?_⟩
  · show f18_1 (1, .i (c0 : Int) :: .i (((k + 1) : Nat) : Int) :: sts n B at_ e a (k + 1) T) = some (1, .i (c0 : Int) :: .i (((k + 1 + 1) : Nat) : Int) :: sts n B at2 e2 a (k + 1 + 1) (T ++ [v1, v2]))
    simp -implicitDefEqProofs only [f18_1, f18_1_1, stn, sts, K.asI4_i, asI_i, asN_n, asL_l, asB_b, asX_x, asE_nil, ↓y1, y2, y3, y4, y5, y6, ↓reduceIte, altK_0, altK_1, altK_2, altK_3, yg, ye, yf, ya, Nat.reduceEqDiff, Nat.reduceAdd, if_true, if_false, c1, p1, q1, w, w2, hT, c3]
  · rw [List.length_append, hT]; show (k + 1) * 2 + 2 = _; omega
  · obtain ⟨z1, z2, z3, z4⟩ := q4 z
    obtain ⟨x1, x2, x3, x4⟩ := p4 z1
    obtain ⟨y1, y2, y3, y4, y5⟩ := h3 x1
    refine ⟨by rw [z4, x4, y1]; show 12 + 28 * (k + 1) + 4 + 24 = _; omega, y2, y3, y4, ?_⟩
    rw [y1] at x3
    rw [x4, y1] at z3
    rw [x3, z3, y5]; rfl
  · rcases q5 z with ⟨z1, z2⟩ | ⟨z1, z2⟩
    · rcases p5 z1 with ⟨x1, x2⟩ | ⟨x1, x2⟩
      · exact h4 x1 hO
      · obtain ⟨y1, y2, y3, y4, y5⟩ := h3 x1
        have := hO.len; have := ps_0 B; omega
    · obtain ⟨x1, x2, x3, x4⟩ := p4 z1
      obtain ⟨y1, y2, y3, y4, y5⟩ := h3 x1
      have z2 : 8 * n < at1 + 24 := z2
      have := hO.len; have := ps_0 B; omega
theorem run1 (a : Nat → Int) (c0 : Nat) (hc : c0 ≤ 3) (at_ : Nat) (e : Int) (h : G1 B n a c0 0 [] at_ e) : ∃ (T' : List Int) (at' : Nat) (e' : Int), G1 B n a c0 c0 T' at' e' ∧ L18_1 (0, .i (c0 : Int) :: .i 0 :: stn n B at_ e a) = (if c0 = 0 then some (0, stn n B at' e' a) else some (1, sts n B at' e' a c0 T')) := by
  have ind := loopL_ind (m := 2) (f := f18_1) (fun s => ∃ (k : Nat) (T : List Int) (at_ : Nat) (e : Int), k ≤ c0 ∧ G1 B n a c0 k T at_ e ∧ s = s1 B n a c0 T at_ e k) (fun s => match s.2 with
    | .i _ :: .i j :: _ => c0 - j.toNat
    | _ => 0) (fun j r => ∃ (T' : List Int) (at' : Nat) (e' : Int), G1 B n a c0 c0 T' at' e' ∧ (j, r) = (if c0 = 0 then (0, stn n B at' e' a) else (1, sts n B at' e' a c0 T'))) (fun s hs => ?_) (0, .i (c0 : Int) :: .i 0 :: stn n B at_ e a) ⟨0, [], at_, e, by omega, h, rfl⟩ (by show c0 - _ < _; omega)
  · obtain ⟨j, r, h1, T', at', e', h2, h3⟩ := ind
    refine ⟨T', at', e', h2, ?_⟩
    have h1 : L18_1 (0, .i (c0 : Int) :: .i 0 :: stn n B at_ e a) = some (j, r) := h1
    rw [h1, h3]
    split <;> rfl
  · obtain ⟨k, T, at_, e, hk, hg, rfl⟩ := hs
    by_cases c : k < c0
    · cases k with
      | zero =>
        obtain ⟨T', at', e', h1, h2⟩ := r1_0 B n hB hl hn a c0 hc c T at_ e hg
        exact .inl ⟨_, h1, by show 1 < 2; omega, ⟨1, T', at', e', by omega, h2, rfl⟩, by show c0 - Int.toNat ((1 : Nat) : Int) < c0 - Int.toNat 0; omega⟩
      | succ k =>
        obtain ⟨T', at', e', h1, h2⟩ := r1_1 B n hB hl hn a c0 k hc c T at_ e hg
        exact .inl ⟨_, h1, by show 1 < 2; omega, ⟨k + 1 + 1, T', at', e', by omega, h2, rfl⟩, by show c0 - Int.toNat ((k + 1 + 1 : Nat) : Int) < c0 - Int.toNat ((k + 1 : Nat) : Int); omega⟩
    · obtain rfl : k = c0 := by omega
      cases k with
      | zero =>
        refine .inr ⟨0, _, ?_, T, at_, e, hg, by rw [if_pos rfl]⟩
        have c1 : ¬ (0 : Int) < ((0 : Nat) : Int) := by omega
        show f18_1 (0, .i ((0 : Nat) : Int) :: .i 0 :: stn n B at_ e a) = _
        simp -implicitDefEqProofs only [f18_1, f18_1_0, stn, K.asI4_i, asI_i, asN_n, asL_l, asB_b, asX_x, asE_nil, ↓y1, y2, y3, y4, y5, y6, ↓reduceIte, altK_0, altK_1, altK_2, altK_3, yg, ye, yf, ya, Nat.reduceEqDiff, Nat.reduceAdd, if_true, if_false, c1]
      | succ k =>
        refine .inr ⟨1, _, ?_, T, at_, e, hg, by rw [if_neg (by omega)]⟩
        have c1 : ¬ ((k + 1 : Nat) : Int) < ((k + 1 : Nat) : Int) := Int.lt_irrefl _
        show f18_1 (1, .i ((k + 1 : Nat) : Int) :: .i (((k + 1) : Nat) : Int) :: sts n B at_ e a (k + 1) T) = _
        simp -implicitDefEqProofs only [f18_1, f18_1_1, sts, K.asI4_i, asI_i, asN_n, asL_l, asB_b, asX_x, asE_nil, ↓y1, y2, y3, y4, y5, y6, ↓reduceIte, altK_0, altK_1, altK_2, altK_3, yg, ye, yf, ya, Nat.reduceEqDiff, Nat.reduceAdd, if_true, if_false, c1]
/-! ### Scales and widths, and the numbers -/
omit hB hl hn
def G2 (a : Nat → Int) (c0 : Nat) (T : List Int) (k : Nat) (at_ : Nat) (e : Int) : Prop := at_ ≤ 8 * n ∧ E3 e ∧ (e = 0 → at_ = 12 + 28 * c0 + 10 * k ∧ vK B 0 2 = 1 ∧ c0 = cnt B ∧ T = tl B c0 ∧ (∀ j, j < 4 → a j = fB B j) ∧ (∀ j, j < k → a (5 + j) = sc B j ∧ sc B j ≤ 23) ∧ ∀ j, j < k → a (9 + j) = wd B j ∧ wd B j ≤ 24) ∧ (e ≠ 0 → ¬ OKB B n)
def G3 (a : Nat → Int) (c0 : Nat) (T : List Int) (k : Nat) (at_ : Nat) (e : Int) : Prop := at_ ≤ 8 * n ∧ E3 e ∧ (e = 0 → at_ = ps B k ∧ vK B 0 2 = 1 ∧ c0 = cnt B ∧ T = tl B c0 ∧ (∀ j, j < 4 → a j = fB B j) ∧ (∀ j, j < 4 → a (5 + j) = sc B j ∧ sc B j ≤ 23) ∧ (∀ j, j < 4 → a (9 + j) = wd B j ∧ wd B j ≤ 24) ∧ ∀ j, j < k → a (13 + j) = qv B j) ∧ (e ≠ 0 → ¬ OKB B n)
include hB hl hn
theorem s2 (k : Nat) (hk : k < 4) (a : Nat → Int) (N : Nat) (T : List Int) (at_ : Nat) (e : Int) (h : G2 B n a N T k at_ e) : ∃ (v1 v2 : Int) (at1 at2 : Nat) (e1 e2 ef : Int),
    g32 (0, [.i 5, .n n, .l B, .i (at_ : Int), .i e]) = some (0, [.i v1, .n n, .l B, .i (at1 : Int), .i e1]) ∧ g32 (0, [.i 5, .n n, .l B, .i (at1 : Int), .i e1]) = some (0, [.i v2, .n n, .l B, .i (at2 : Int), .i e2]) ∧
    g33 (0, [.i 4, .n n, .l B, .i (at2 : Int), .i e2]) = some (0, [.n n, .l B, .i (at2 : Int), .i ef]) ∧ IntKind.i64.wrap v1 = v1 ∧ IntKind.i64.wrap v2 = v2 ∧
    ((23 < v1 ∨ 24 < v2) → G2 B n (upd (upd a (5 + k) v1) (9 + k) v2) N T (k + 1) at2 ef) ∧ (¬ 23 < v1 → ¬ 24 < v2 → G2 B n (upd (upd a (5 + k) v1) (9 + k) v2) N T (k + 1) at2 e2) := by
  obtain ⟨h1, h2, h3, h4⟩ := h
  obtain ⟨v1, at1, e1, p1, p2, p3, p4, p5, p6, p7⟩ := get_step B n hB hl hn 5 (by omega) at_ e h1 h2
  obtain ⟨v2, at2, e2, q1, q2, q3, q4, q5, q6, q7⟩ := get_step B n hB hl hn 5 (by omega) at1 e1 p2 p3
  obtain ⟨ef, f1, f2, f3⟩ := fail_step B n at2 e2
  have pw5' : pw 5 = 32 := rfl
  have good : e2 = 0 → v1 = sc B k ∧ v2 = wd B k ∧ at2 = at_ + 10 ∧ e = 0 := fun z => by
    obtain ⟨z1, z2, z3, z4⟩ := q4 z
    obtain ⟨x1, x2, x3, x4⟩ := p4 z1
    obtain ⟨y1, y2, y3, y4, y5, y6, y7⟩ := h3 x1
    refine ⟨?_, ?_, by omega, x1⟩
    · rw [x3, y1, y3]; rfl
    · rw [z3, x4, y1, y3]; rfl
  have bad : e2 ≠ 0 → ¬ OKB B n := fun z hO => by
    rcases q5 z with ⟨z1, z2⟩ | ⟨z1, z2⟩
    · rcases p5 z1 with ⟨x1, x2⟩ | ⟨x1, x2⟩
      · exact h4 x1 hO
      · obtain ⟨y1, y2, y3, y4, y5, y6, y7⟩ := h3 x1
        have := hO.len; have := ps_0 B; omega
    · obtain ⟨x1, x2, x3, x4⟩ := p4 z1
      obtain ⟨y1, y2, y3, y4, y5, y6, y7⟩ := h3 x1
      have := hO.len; have := ps_0 B; omega
  refine ⟨v1, v2, at1, at2, e1, e2, ef, p1, q1, f1, wrap64 (by omega) (by omega), wrap64 (by omega) (by omega), fun c => ⟨q2, f3 q3, fun z => absurd z f2, fun _ hO => ?_⟩, fun c1 c2 => ⟨q2, q3, fun z => ?_, bad⟩⟩
  · by_cases z : e2 = 0
    · have g1 := (good z).1; have g2 := (good z).2.1; have := hO.sc k hk; have := hO.wd k hk; omega
    · exact bad z hO
  · obtain ⟨g1, g2, g3, g4⟩ := good z
    obtain ⟨y1, y2, y3, y4, y5, y6, y7⟩ := h3 g4
    refine ⟨by omega, y2, y3, y4, fun j hj => ?_, fun j hj => ?_, fun j hj => ?_⟩
    · rw [upd_ne (by omega), upd_ne (by omega)]; exact y5 j hj
    · rw [upd_ne (by omega)]
      by_cases c : j = k
      · subst c; rw [upd_eq rfl]; exact ⟨g1, by omega⟩
      · rw [upd_ne (by omega)]; exact y6 j (by omega)
    · by_cases c : j = k
      · subst c; rw [upd_eq rfl]; exact ⟨g2, by omega⟩
      · rw [upd_ne (by omega), upd_ne (by omega)]; exact y7 j (by omega)
theorem s3 (k : Nat) (hk : k < 16) (a : Nat → Int) (N : Nat) (T : List Int) (at_ : Nat) (e : Int) (h : G3 B n a N T k at_ e) : ∃ (v : Int) (at' : Nat) (e' : Int), g34 (0, [.i (a (9 + k / 4)), .n n, .l B, .i (at_ : Int), .i e]) = some (0, [.i v, .n n, .l B, .i (at' : Int), .i e']) ∧ G3 B n (upd a (13 + k) v) N T (k + 1) at' e' := by
  obtain ⟨h1, h2, h3, h4⟩ := h
  have hw : e = 0 → a (9 + k / 4) = wd B (k / 4) ∧ 0 ≤ a (9 + k / 4) ∧ a (9 + k / 4) ≤ 24 := fun z => by
    have y := (h3 z).2.2.2.2.2.2.1 (k / 4) (by omega)
    have := (vK_in B (12 + 28 * cnt B + 10 * (k / 4) + 5) 5).1
    exact ⟨y.1, by rw [y.1]; exact this, by rw [y.1]; exact y.2⟩
  obtain ⟨v, at', e', q1, q2, q3, q4, q5⟩ := sgn_step B n hB hl hn (a (9 + k / 4)) at_ e h1 h2 (fun z => by have := hw z; omega)
  refine ⟨v, at', e', q1, q2, q3, fun z => ?_, fun z hO => ?_⟩
  · obtain ⟨z1, z2, z3, z4⟩ := q4 z
    obtain ⟨y1, y2, y3, y4, y5, y6, y7, y8⟩ := h3 z1
    have hw := (hw z1).1
    rw [hw, y1] at z3
    rw [hw, y1] at z4
    refine ⟨z4, y2, y3, y4, fun j hj => ?_, fun j hj => ?_, fun j hj => ?_, fun j hj => ?_⟩
    · rw [upd_ne (by omega)]; exact y5 j hj
    · rw [upd_ne (by omega)]; exact y6 j hj
    · rw [upd_ne (by omega)]; exact y7 j hj
    · by_cases c : j = k
      · subst c; rw [upd_eq rfl]; exact z3
      · rw [upd_ne (by omega)]; exact y8 j (by omega)
  · rcases q5 z with ⟨z1, z2⟩ | ⟨z1, z2⟩
    · exact h4 z1 hO
    · obtain ⟨y1, y2, y3, y4, y5, y6, y7, y8⟩ := h3 z1
      rw [(hw z1).1, y1] at z2
      have h5 : ps B (k + 1) = ps B k + (wd B (k / 4)).toNat := rfl
      have h6 := ps_le B (k := k + 1) (j := 16) (by omega)
      have := hO.len
      omega
theorem r2n_0 (a : Nat → Int) (N : Nat) (T : List Int) (at_ : Nat) (e : Int) (h : G2 B n a N T 0 at_ e) : ∃ (a' : Nat → Int) (at' : Nat) (e' : Int), f18_2 (0, stn n B at_ e a) = some (2, stn n B at' e' a') ∧ G2 B n a' N T 1 at' e' := by
  obtain ⟨v1, v2, at1, at2, e1, e2, ef, p1, q1, f1, w1, w2, g1, g2⟩ := s2 B n hB hl hn 0 (by omega) a N T at_ e h
  by_cases c1 : 23 < v1
  · exact ⟨_, at2, ef, by simp -implicitDefEqProofs only [f18_2, f18_2_0, stn, upd, K.asI4_i, asI_i, asN_n, asL_l, asB_b, asE_nil, ↓Bool.cond_decide, ↓reduceIte, altK_0, altK_1, altK_2, altK_3, Nat.reduceEqDiff, Nat.reduceAdd, p1, q1, w1, w2, c1, f1], g1 (.inl c1)⟩
  by_cases c2 : 24 < v2
  · exact ⟨_, at2, ef, by simp -implicitDefEqProofs only [f18_2, f18_2_0, stn, upd, K.asI4_i, asI_i, asN_n, asL_l, asB_b, asE_nil, ↓Bool.cond_decide, ↓reduceIte, altK_0, altK_1, altK_2, altK_3, Nat.reduceEqDiff, Nat.reduceAdd, p1, q1, w1, w2, c1, c2, f1], g1 (.inr c2)⟩
  exact ⟨_, at2, e2, by simp -implicitDefEqProofs only [f18_2, f18_2_0, stn, upd, K.asI4_i, asI_i, asN_n, asL_l, asB_b, asE_nil, ↓Bool.cond_decide, ↓reduceIte, altK_0, altK_1, altK_2, altK_3, Nat.reduceEqDiff, Nat.reduceAdd, p1, q1, w1, w2, c1, c2], g2 c1 c2⟩
theorem r2n_1 (a : Nat → Int) (N : Nat) (T : List Int) (at_ : Nat) (e : Int) (h : G2 B n a N T 1 at_ e) : ∃ (a' : Nat → Int) (at' : Nat) (e' : Int), f18_2 (2, stn n B at_ e a) = some (4, stn n B at' e' a') ∧ G2 B n a' N T 2 at' e' := by
  obtain ⟨v1, v2, at1, at2, e1, e2, ef, p1, q1, f1, w1, w2, g1, g2⟩ := s2 B n hB hl hn 1 (by omega) a N T at_ e h
  by_cases c1 : 23 < v1
  · exact ⟨_, at2, ef, by simp -implicitDefEqProofs only [f18_2, f18_2_2, stn, upd, K.asI4_i, asI_i, asN_n, asL_l, asB_b, asE_nil, ↓Bool.cond_decide, ↓reduceIte, altK_0, altK_1, altK_2, altK_3, Nat.reduceEqDiff, Nat.reduceAdd, p1, q1, w1, w2, c1, f1], g1 (.inl c1)⟩
  by_cases c2 : 24 < v2
  · exact ⟨_, at2, ef, by simp -implicitDefEqProofs only [f18_2, f18_2_2, stn, upd, K.asI4_i, asI_i, asN_n, asL_l, asB_b, asE_nil, ↓Bool.cond_decide, ↓reduceIte, altK_0, altK_1, altK_2, altK_3, Nat.reduceEqDiff, Nat.reduceAdd, p1, q1, w1, w2, c1, c2, f1], g1 (.inr c2)⟩
  exact ⟨_, at2, e2, by simp -implicitDefEqProofs only [f18_2, f18_2_2, stn, upd, K.asI4_i, asI_i, asN_n, asL_l, asB_b, asE_nil, ↓Bool.cond_decide, ↓reduceIte, altK_0, altK_1, altK_2, altK_3, Nat.reduceEqDiff, Nat.reduceAdd, p1, q1, w1, w2, c1, c2], g2 c1 c2⟩
theorem r2n_2 (a : Nat → Int) (N : Nat) (T : List Int) (at_ : Nat) (e : Int) (h : G2 B n a N T 2 at_ e) : ∃ (a' : Nat → Int) (at' : Nat) (e' : Int), f18_2 (4, stn n B at_ e a) = some (6, stn n B at' e' a') ∧ G2 B n a' N T 3 at' e' := by
  obtain ⟨v1, v2, at1, at2, e1, e2, ef, p1, q1, f1, w1, w2, g1, g2⟩ := s2 B n hB hl hn 2 (by omega) a N T at_ e h
  by_cases c1 : 23 < v1
  · exact ⟨_, at2, ef, by simp -implicitDefEqProofs only [f18_2, f18_2_4, stn, upd, K.asI4_i, asI_i, asN_n, asL_l, asB_b, asE_nil, ↓Bool.cond_decide, ↓reduceIte, altK_0, altK_1, altK_2, altK_3, Nat.reduceEqDiff, Nat.reduceAdd, p1, q1, w1, w2, c1, f1], g1 (.inl c1)⟩
  by_cases c2 : 24 < v2
  · exact ⟨_, at2, ef, by simp -implicitDefEqProofs only [f18_2, f18_2_4, stn, upd, K.asI4_i, asI_i, asN_n, asL_l, asB_b, asE_nil, ↓Bool.cond_decide, ↓reduceIte, altK_0, altK_1, altK_2, altK_3, Nat.reduceEqDiff, Nat.reduceAdd, p1, q1, w1, w2, c1, c2, f1], g1 (.inr c2)⟩
  exact ⟨_, at2, e2, by simp -implicitDefEqProofs only [f18_2, f18_2_4, stn, upd, K.asI4_i, asI_i, asN_n, asL_l, asB_b, asE_nil, ↓Bool.cond_decide, ↓reduceIte, altK_0, altK_1, altK_2, altK_3, Nat.reduceEqDiff, Nat.reduceAdd, p1, q1, w1, w2, c1, c2], g2 c1 c2⟩
theorem r2n_3 (a : Nat → Int) (N : Nat) (T : List Int) (at_ : Nat) (e : Int) (h : G2 B n a N T 3 at_ e) : ∃ (a' : Nat → Int) (at' : Nat) (e' : Int), f18_2 (6, stn n B at_ e a) = some (8, stn n B at' e' a') ∧ G2 B n a' N T 4 at' e' := by
  obtain ⟨v1, v2, at1, at2, e1, e2, ef, p1, q1, f1, w1, w2, g1, g2⟩ := s2 B n hB hl hn 3 (by omega) a N T at_ e h
  by_cases c1 : 23 < v1
  · exact ⟨_, at2, ef, by simp -implicitDefEqProofs only [f18_2, f18_2_6, stn, upd, K.asI4_i, asI_i, asN_n, asL_l, asB_b, asE_nil, ↓Bool.cond_decide, ↓reduceIte, altK_0, altK_1, altK_2, altK_3, Nat.reduceEqDiff, Nat.reduceAdd, p1, q1, w1, w2, c1, f1], g1 (.inl c1)⟩
  by_cases c2 : 24 < v2
  · exact ⟨_, at2, ef, by simp -implicitDefEqProofs only [f18_2, f18_2_6, stn, upd, K.asI4_i, asI_i, asN_n, asL_l, asB_b, asE_nil, ↓Bool.cond_decide, ↓reduceIte, altK_0, altK_1, altK_2, altK_3, Nat.reduceEqDiff, Nat.reduceAdd, p1, q1, w1, w2, c1, c2, f1], g1 (.inr c2)⟩
  exact ⟨_, at2, e2, by simp -implicitDefEqProofs only [f18_2, f18_2_6, stn, upd, K.asI4_i, asI_i, asN_n, asL_l, asB_b, asE_nil, ↓Bool.cond_decide, ↓reduceIte, altK_0, altK_1, altK_2, altK_3, Nat.reduceEqDiff, Nat.reduceAdd, p1, q1, w1, w2, c1, c2], g2 c1 c2⟩
theorem r3n_0 (a : Nat → Int) (N : Nat) (T : List Int) (at_ : Nat) (e : Int) (h : G3 B n a N T 0 at_ e) : ∃ (a' : Nat → Int) (at' : Nat) (e' : Int), f18_3 (0, stn n B at_ e a) = some (2, stn n B at' e' a') ∧ G3 B n a' N T 1 at' e' := by
  obtain ⟨v, at', e', q, g⟩ := s3 B n hB hl hn 0 (by omega) a N T at_ e h
  have q : g34 (0, [.i (a 9), .n n, .l B, .i (at_ : Int), .i e]) = some (0, [.i v, .n n, .l B, .i (at' : Int), .i e']) := q
  exact ⟨_, at', e', by simp -implicitDefEqProofs only [f18_3, f18_3_0, stn, upd, K.g23, K.g23_0, K.asI4_i, asI_i, asN_n, asL_l, asB_b, asE_nil, ↓Bool.cond_decide, ↓reduceIte, altK_0, altK_1, altK_2, altK_3, Nat.reduceEqDiff, Nat.reduceAdd, q], g⟩
theorem r3n_1 (a : Nat → Int) (N : Nat) (T : List Int) (at_ : Nat) (e : Int) (h : G3 B n a N T 1 at_ e) : ∃ (a' : Nat → Int) (at' : Nat) (e' : Int), f18_3 (2, stn n B at_ e a) = some (4, stn n B at' e' a') ∧ G3 B n a' N T 2 at' e' := by
  obtain ⟨v, at', e', q, g⟩ := s3 B n hB hl hn 1 (by omega) a N T at_ e h
  have q : g34 (0, [.i (a 9), .n n, .l B, .i (at_ : Int), .i e]) = some (0, [.i v, .n n, .l B, .i (at' : Int), .i e']) := q
  exact ⟨_, at', e', by simp -implicitDefEqProofs only [f18_3, f18_3_2, stn, upd, K.g23, K.g23_1, K.asI4_i, asI_i, asN_n, asL_l, asB_b, asE_nil, ↓Bool.cond_decide, ↓reduceIte, altK_0, altK_1, altK_2, altK_3, Nat.reduceEqDiff, Nat.reduceAdd, q], g⟩
theorem r3n_2 (a : Nat → Int) (N : Nat) (T : List Int) (at_ : Nat) (e : Int) (h : G3 B n a N T 2 at_ e) : ∃ (a' : Nat → Int) (at' : Nat) (e' : Int), f18_3 (4, stn n B at_ e a) = some (6, stn n B at' e' a') ∧ G3 B n a' N T 3 at' e' := by
  obtain ⟨v, at', e', q, g⟩ := s3 B n hB hl hn 2 (by omega) a N T at_ e h
  have q : g34 (0, [.i (a 9), .n n, .l B, .i (at_ : Int), .i e]) = some (0, [.i v, .n n, .l B, .i (at' : Int), .i e']) := q
  exact ⟨_, at', e', by simp -implicitDefEqProofs only [f18_3, f18_3_4, stn, upd, K.g23, K.g23_2, K.asI4_i, asI_i, asN_n, asL_l, asB_b, asE_nil, ↓Bool.cond_decide, ↓reduceIte, altK_0, altK_1, altK_2, altK_3, Nat.reduceEqDiff, Nat.reduceAdd, q], g⟩
theorem r3n_3 (a : Nat → Int) (N : Nat) (T : List Int) (at_ : Nat) (e : Int) (h : G3 B n a N T 3 at_ e) : ∃ (a' : Nat → Int) (at' : Nat) (e' : Int), f18_3 (6, stn n B at_ e a) = some (8, stn n B at' e' a') ∧ G3 B n a' N T 4 at' e' := by
  obtain ⟨v, at', e', q, g⟩ := s3 B n hB hl hn 3 (by omega) a N T at_ e h
  have q : g34 (0, [.i (a 9), .n n, .l B, .i (at_ : Int), .i e]) = some (0, [.i v, .n n, .l B, .i (at' : Int), .i e']) := q
  exact ⟨_, at', e', by simp -implicitDefEqProofs only [f18_3, f18_3_6, stn, upd, K.g23, K.g23_3, K.asI4_i, asI_i, asN_n, asL_l, asB_b, asE_nil, ↓Bool.cond_decide, ↓reduceIte, altK_0, altK_1, altK_2, altK_3, Nat.reduceEqDiff, Nat.reduceAdd, q], g⟩
theorem r3n_4 (a : Nat → Int) (N : Nat) (T : List Int) (at_ : Nat) (e : Int) (h : G3 B n a N T 4 at_ e) : ∃ (a' : Nat → Int) (at' : Nat) (e' : Int), f18_3 (8, stn n B at_ e a) = some (10, stn n B at' e' a') ∧ G3 B n a' N T 5 at' e' := by
  obtain ⟨v, at', e', q, g⟩ := s3 B n hB hl hn 4 (by omega) a N T at_ e h
  have q : g34 (0, [.i (a 10), .n n, .l B, .i (at_ : Int), .i e]) = some (0, [.i v, .n n, .l B, .i (at' : Int), .i e']) := q
  exact ⟨_, at', e', by simp -implicitDefEqProofs only [f18_3, f18_3_8, stn, upd, K.g23, K.g23_4, K.asI4_i, asI_i, asN_n, asL_l, asB_b, asE_nil, ↓Bool.cond_decide, ↓reduceIte, altK_0, altK_1, altK_2, altK_3, Nat.reduceEqDiff, Nat.reduceAdd, q], g⟩
theorem r3n_5 (a : Nat → Int) (N : Nat) (T : List Int) (at_ : Nat) (e : Int) (h : G3 B n a N T 5 at_ e) : ∃ (a' : Nat → Int) (at' : Nat) (e' : Int), f18_3 (10, stn n B at_ e a) = some (12, stn n B at' e' a') ∧ G3 B n a' N T 6 at' e' := by
  obtain ⟨v, at', e', q, g⟩ := s3 B n hB hl hn 5 (by omega) a N T at_ e h
  have q : g34 (0, [.i (a 10), .n n, .l B, .i (at_ : Int), .i e]) = some (0, [.i v, .n n, .l B, .i (at' : Int), .i e']) := q
  exact ⟨_, at', e', by simp -implicitDefEqProofs only [f18_3, f18_3_10, stn, upd, K.g23, K.g23_5, K.asI4_i, asI_i, asN_n, asL_l, asB_b, asE_nil, ↓Bool.cond_decide, ↓reduceIte, altK_0, altK_1, altK_2, altK_3, Nat.reduceEqDiff, Nat.reduceAdd, q], g⟩
theorem r3n_6 (a : Nat → Int) (N : Nat) (T : List Int) (at_ : Nat) (e : Int) (h : G3 B n a N T 6 at_ e) : ∃ (a' : Nat → Int) (at' : Nat) (e' : Int), f18_3 (12, stn n B at_ e a) = some (14, stn n B at' e' a') ∧ G3 B n a' N T 7 at' e' := by
  obtain ⟨v, at', e', q, g⟩ := s3 B n hB hl hn 6 (by omega) a N T at_ e h
  have q : g34 (0, [.i (a 10), .n n, .l B, .i (at_ : Int), .i e]) = some (0, [.i v, .n n, .l B, .i (at' : Int), .i e']) := q
  exact ⟨_, at', e', by simp -implicitDefEqProofs only [f18_3, f18_3_12, stn, upd, K.g23, K.g23_6, K.asI4_i, asI_i, asN_n, asL_l, asB_b, asE_nil, ↓Bool.cond_decide, ↓reduceIte, altK_0, altK_1, altK_2, altK_3, Nat.reduceEqDiff, Nat.reduceAdd, q], g⟩
theorem r3n_7 (a : Nat → Int) (N : Nat) (T : List Int) (at_ : Nat) (e : Int) (h : G3 B n a N T 7 at_ e) : ∃ (a' : Nat → Int) (at' : Nat) (e' : Int), f18_3 (14, stn n B at_ e a) = some (16, stn n B at' e' a') ∧ G3 B n a' N T 8 at' e' := by
  obtain ⟨v, at', e', q, g⟩ := s3 B n hB hl hn 7 (by omega) a N T at_ e h
  have q : g34 (0, [.i (a 10), .n n, .l B, .i (at_ : Int), .i e]) = some (0, [.i v, .n n, .l B, .i (at' : Int), .i e']) := q
  exact ⟨_, at', e', by simp -implicitDefEqProofs only [f18_3, f18_3_14, stn, upd, K.g23, K.g23_7, K.asI4_i, asI_i, asN_n, asL_l, asB_b, asE_nil, ↓Bool.cond_decide, ↓reduceIte, altK_0, altK_1, altK_2, altK_3, Nat.reduceEqDiff, Nat.reduceAdd, q], g⟩
theorem r3n_8 (a : Nat → Int) (N : Nat) (T : List Int) (at_ : Nat) (e : Int) (h : G3 B n a N T 8 at_ e) : ∃ (a' : Nat → Int) (at' : Nat) (e' : Int), f18_3 (16, stn n B at_ e a) = some (18, stn n B at' e' a') ∧ G3 B n a' N T 9 at' e' := by
  obtain ⟨v, at', e', q, g⟩ := s3 B n hB hl hn 8 (by omega) a N T at_ e h
  have q : g34 (0, [.i (a 11), .n n, .l B, .i (at_ : Int), .i e]) = some (0, [.i v, .n n, .l B, .i (at' : Int), .i e']) := q
  exact ⟨_, at', e', by simp -implicitDefEqProofs only [f18_3, f18_3_16, stn, upd, K.g23, K.g23_8, K.asI4_i, asI_i, asN_n, asL_l, asB_b, asE_nil, ↓Bool.cond_decide, ↓reduceIte, altK_0, altK_1, altK_2, altK_3, Nat.reduceEqDiff, Nat.reduceAdd, q], g⟩
theorem r3n_9 (a : Nat → Int) (N : Nat) (T : List Int) (at_ : Nat) (e : Int) (h : G3 B n a N T 9 at_ e) : ∃ (a' : Nat → Int) (at' : Nat) (e' : Int), f18_3 (18, stn n B at_ e a) = some (20, stn n B at' e' a') ∧ G3 B n a' N T 10 at' e' := by
  obtain ⟨v, at', e', q, g⟩ := s3 B n hB hl hn 9 (by omega) a N T at_ e h
  have q : g34 (0, [.i (a 11), .n n, .l B, .i (at_ : Int), .i e]) = some (0, [.i v, .n n, .l B, .i (at' : Int), .i e']) := q
  exact ⟨_, at', e', by simp -implicitDefEqProofs only [f18_3, f18_3_18, stn, upd, K.g23, K.g23_9, K.asI4_i, asI_i, asN_n, asL_l, asB_b, asE_nil, ↓Bool.cond_decide, ↓reduceIte, altK_0, altK_1, altK_2, altK_3, Nat.reduceEqDiff, Nat.reduceAdd, q], g⟩
theorem r3n_10 (a : Nat → Int) (N : Nat) (T : List Int) (at_ : Nat) (e : Int) (h : G3 B n a N T 10 at_ e) : ∃ (a' : Nat → Int) (at' : Nat) (e' : Int), f18_3 (20, stn n B at_ e a) = some (22, stn n B at' e' a') ∧ G3 B n a' N T 11 at' e' := by
  obtain ⟨v, at', e', q, g⟩ := s3 B n hB hl hn 10 (by omega) a N T at_ e h
  have q : g34 (0, [.i (a 11), .n n, .l B, .i (at_ : Int), .i e]) = some (0, [.i v, .n n, .l B, .i (at' : Int), .i e']) := q
  exact ⟨_, at', e', by simp -implicitDefEqProofs only [f18_3, f18_3_20, stn, upd, K.g23, K.g23_10, K.asI4_i, asI_i, asN_n, asL_l, asB_b, asE_nil, ↓Bool.cond_decide, ↓reduceIte, altK_0, altK_1, altK_2, altK_3, Nat.reduceEqDiff, Nat.reduceAdd, q], g⟩
theorem r3n_11 (a : Nat → Int) (N : Nat) (T : List Int) (at_ : Nat) (e : Int) (h : G3 B n a N T 11 at_ e) : ∃ (a' : Nat → Int) (at' : Nat) (e' : Int), f18_3 (22, stn n B at_ e a) = some (24, stn n B at' e' a') ∧ G3 B n a' N T 12 at' e' := by
  obtain ⟨v, at', e', q, g⟩ := s3 B n hB hl hn 11 (by omega) a N T at_ e h
  have q : g34 (0, [.i (a 11), .n n, .l B, .i (at_ : Int), .i e]) = some (0, [.i v, .n n, .l B, .i (at' : Int), .i e']) := q
  exact ⟨_, at', e', by simp -implicitDefEqProofs only [f18_3, f18_3_22, stn, upd, K.g23, K.g23_11, K.asI4_i, asI_i, asN_n, asL_l, asB_b, asE_nil, ↓Bool.cond_decide, ↓reduceIte, altK_0, altK_1, altK_2, altK_3, Nat.reduceEqDiff, Nat.reduceAdd, q], g⟩
theorem r3n_12 (a : Nat → Int) (N : Nat) (T : List Int) (at_ : Nat) (e : Int) (h : G3 B n a N T 12 at_ e) : ∃ (a' : Nat → Int) (at' : Nat) (e' : Int), f18_3 (24, stn n B at_ e a) = some (26, stn n B at' e' a') ∧ G3 B n a' N T 13 at' e' := by
  obtain ⟨v, at', e', q, g⟩ := s3 B n hB hl hn 12 (by omega) a N T at_ e h
  have q : g34 (0, [.i (a 12), .n n, .l B, .i (at_ : Int), .i e]) = some (0, [.i v, .n n, .l B, .i (at' : Int), .i e']) := q
  exact ⟨_, at', e', by simp -implicitDefEqProofs only [f18_3, f18_3_24, stn, upd, K.g23, K.g23_12, K.asI4_i, asI_i, asN_n, asL_l, asB_b, asE_nil, ↓Bool.cond_decide, ↓reduceIte, altK_0, altK_1, altK_2, altK_3, Nat.reduceEqDiff, Nat.reduceAdd, q], g⟩
theorem r3n_13 (a : Nat → Int) (N : Nat) (T : List Int) (at_ : Nat) (e : Int) (h : G3 B n a N T 13 at_ e) : ∃ (a' : Nat → Int) (at' : Nat) (e' : Int), f18_3 (26, stn n B at_ e a) = some (28, stn n B at' e' a') ∧ G3 B n a' N T 14 at' e' := by
  obtain ⟨v, at', e', q, g⟩ := s3 B n hB hl hn 13 (by omega) a N T at_ e h
  have q : g34 (0, [.i (a 12), .n n, .l B, .i (at_ : Int), .i e]) = some (0, [.i v, .n n, .l B, .i (at' : Int), .i e']) := q
  exact ⟨_, at', e', by simp -implicitDefEqProofs only [f18_3, f18_3_26, stn, upd, K.g23, K.g23_13, K.asI4_i, asI_i, asN_n, asL_l, asB_b, asE_nil, ↓Bool.cond_decide, ↓reduceIte, altK_0, altK_1, altK_2, altK_3, Nat.reduceEqDiff, Nat.reduceAdd, q], g⟩
theorem r3n_14 (a : Nat → Int) (N : Nat) (T : List Int) (at_ : Nat) (e : Int) (h : G3 B n a N T 14 at_ e) : ∃ (a' : Nat → Int) (at' : Nat) (e' : Int), f18_3 (28, stn n B at_ e a) = some (30, stn n B at' e' a') ∧ G3 B n a' N T 15 at' e' := by
  obtain ⟨v, at', e', q, g⟩ := s3 B n hB hl hn 14 (by omega) a N T at_ e h
  have q : g34 (0, [.i (a 12), .n n, .l B, .i (at_ : Int), .i e]) = some (0, [.i v, .n n, .l B, .i (at' : Int), .i e']) := q
  exact ⟨_, at', e', by simp -implicitDefEqProofs only [f18_3, f18_3_28, stn, upd, K.g23, K.g23_14, K.asI4_i, asI_i, asN_n, asL_l, asB_b, asE_nil, ↓Bool.cond_decide, ↓reduceIte, altK_0, altK_1, altK_2, altK_3, Nat.reduceEqDiff, Nat.reduceAdd, q], g⟩
theorem r3n_15 (a : Nat → Int) (N : Nat) (T : List Int) (at_ : Nat) (e : Int) (h : G3 B n a N T 15 at_ e) : ∃ (a' : Nat → Int) (at' : Nat) (e' : Int), f18_3 (30, stn n B at_ e a) = some (32, stn n B at' e' a') ∧ G3 B n a' N T 16 at' e' := by
  obtain ⟨v, at', e', q, g⟩ := s3 B n hB hl hn 15 (by omega) a N T at_ e h
  have q : g34 (0, [.i (a 12), .n n, .l B, .i (at_ : Int), .i e]) = some (0, [.i v, .n n, .l B, .i (at' : Int), .i e']) := q
  exact ⟨_, at', e', by simp -implicitDefEqProofs only [f18_3, f18_3_30, stn, upd, K.g23, K.g23_15, K.asI4_i, asI_i, asN_n, asL_l, asB_b, asE_nil, ↓Bool.cond_decide, ↓reduceIte, altK_0, altK_1, altK_2, altK_3, Nat.reduceEqDiff, Nat.reduceAdd, q], g⟩
theorem run2n (a : Nat → Int) (N : Nat) (T : List Int) (at_ : Nat) (e : Int) (h : G2 B n a N T 0 at_ e) : ∃ (a' : Nat → Int) (at' : Nat) (e' : Int), L18_2 (0, stn n B at_ e a) = some (0, stn n B at' e' a') ∧ G2 B n a' N T 4 at' e' := by
  have ind := loopL_ind (m := 10) (f := f18_2) (fun s => ∃ (k : Nat) (a : Nat → Int) (at_ : Nat) (e : Int), k ≤ 4 ∧ G2 B n a N T k at_ e ∧ s = (2 * k + 0, stn n B at_ e a)) (fun s => 10 - s.1) (fun j r => j = 0 ∧ ∃ (a' : Nat → Int) (at' : Nat) (e' : Int), r = stn n B at' e' a' ∧ G2 B n a' N T 4 at' e') (fun s hs => ?_) (0, stn n B at_ e a) ⟨0, a, at_, e, by omega, h, rfl⟩ (by show 10 - _ < _; omega)
  · obtain ⟨j, r, h1, rfl, a', at', e', rfl, h2⟩ := ind
    exact ⟨a', at', e', h1, h2⟩
  · obtain ⟨k, a, at_, e, hk, hg, rfl⟩ := hs
    match k, hk, hg with
    | 0, _, hg =>
      obtain ⟨a', at', e', h1, h2⟩ := r2n_0 B n hB hl hn a N T at_ e hg
      exact .inl ⟨_, h1, by show 2 < 10; omega, ⟨1, a', at', e', by omega, h2, rfl⟩, by show 10 - 2 < 10 - 0; omega⟩
    | 1, _, hg =>
      obtain ⟨a', at', e', h1, h2⟩ := r2n_1 B n hB hl hn a N T at_ e hg
      exact .inl ⟨_, h1, by show 4 < 10; omega, ⟨2, a', at', e', by omega, h2, rfl⟩, by show 10 - 4 < 10 - 2; omega⟩
    | 2, _, hg =>
      obtain ⟨a', at', e', h1, h2⟩ := r2n_2 B n hB hl hn a N T at_ e hg
      exact .inl ⟨_, h1, by show 6 < 10; omega, ⟨3, a', at', e', by omega, h2, rfl⟩, by show 10 - 6 < 10 - 4; omega⟩
    | 3, _, hg =>
      obtain ⟨a', at', e', h1, h2⟩ := r2n_3 B n hB hl hn a N T at_ e hg
      exact .inl ⟨_, h1, by show 8 < 10; omega, ⟨4, a', at', e', by omega, h2, rfl⟩, by show 10 - 8 < 10 - 6; omega⟩
    | 4, _, hg =>
      refine .inr ⟨0, stn n B at_ e a, ?_, rfl, a, at_, e, rfl, hg⟩
      show f18_2 (8, stn n B at_ e a) = _
      simp -implicitDefEqProofs only [f18_2, f18_2_8, stn, sts, K.asI4_i, asI_i, asN_n, asL_l, asB_b, asX_x, asE_nil, ↓y1, y2, y3, y4, y5, y6, ↓reduceIte, altK_0, altK_1, altK_2, altK_3, yg, ye, yf, ya, Nat.reduceEqDiff, Nat.reduceAdd, if_true, if_false]
    | k + 5, hk, _ => omega
theorem run3n (a : Nat → Int) (N : Nat) (T : List Int) (at_ : Nat) (e : Int) (h : G3 B n a N T 0 at_ e) : ∃ (a' : Nat → Int) (at' : Nat) (e' : Int), L18_3 (0, stn n B at_ e a) = some (0, stn n B at' e' a') ∧ G3 B n a' N T 16 at' e' := by
  have ind := loopL_ind (m := 34) (f := f18_3) (fun s => ∃ (k : Nat) (a : Nat → Int) (at_ : Nat) (e : Int), k ≤ 16 ∧ G3 B n a N T k at_ e ∧ s = (2 * k + 0, stn n B at_ e a)) (fun s => 34 - s.1) (fun j r => j = 0 ∧ ∃ (a' : Nat → Int) (at' : Nat) (e' : Int), r = stn n B at' e' a' ∧ G3 B n a' N T 16 at' e') (fun s hs => ?_) (0, stn n B at_ e a) ⟨0, a, at_, e, by omega, h, rfl⟩ (by show 34 - _ < _; omega)
  · obtain ⟨j, r, h1, rfl, a', at', e', rfl, h2⟩ := ind
    exact ⟨a', at', e', h1, h2⟩
  · obtain ⟨k, a, at_, e, hk, hg, rfl⟩ := hs
    match k, hk, hg with
    | 0, _, hg =>
      obtain ⟨a', at', e', h1, h2⟩ := r3n_0 B n hB hl hn a N T at_ e hg
      exact .inl ⟨_, h1, by show 2 < 34; omega, ⟨1, a', at', e', by omega, h2, rfl⟩, by show 34 - 2 < 34 - 0; omega⟩
    | 1, _, hg =>
      obtain ⟨a', at', e', h1, h2⟩ := r3n_1 B n hB hl hn a N T at_ e hg
      exact .inl ⟨_, h1, by show 4 < 34; omega, ⟨2, a', at', e', by omega, h2, rfl⟩, by show 34 - 4 < 34 - 2; omega⟩
    | 2, _, hg =>
      obtain ⟨a', at', e', h1, h2⟩ := r3n_2 B n hB hl hn a N T at_ e hg
      exact .inl ⟨_, h1, by show 6 < 34; omega, ⟨3, a', at', e', by omega, h2, rfl⟩, by show 34 - 6 < 34 - 4; omega⟩
    | 3, _, hg =>
      obtain ⟨a', at', e', h1, h2⟩ := r3n_3 B n hB hl hn a N T at_ e hg
      exact .inl ⟨_, h1, by show 8 < 34; omega, ⟨4, a', at', e', by omega, h2, rfl⟩, by show 34 - 8 < 34 - 6; omega⟩
    | 4, _, hg =>
      obtain ⟨a', at', e', h1, h2⟩ := r3n_4 B n hB hl hn a N T at_ e hg
      exact .inl ⟨_, h1, by show 10 < 34; omega, ⟨5, a', at', e', by omega, h2, rfl⟩, by show 34 - 10 < 34 - 8; omega⟩
    | 5, _, hg =>
      obtain ⟨a', at', e', h1, h2⟩ := r3n_5 B n hB hl hn a N T at_ e hg
      exact .inl ⟨_, h1, by show 12 < 34; omega, ⟨6, a', at', e', by omega, h2, rfl⟩, by show 34 - 12 < 34 - 10; omega⟩
    | 6, _, hg =>
      obtain ⟨a', at', e', h1, h2⟩ := r3n_6 B n hB hl hn a N T at_ e hg
      exact .inl ⟨_, h1, by show 14 < 34; omega, ⟨7, a', at', e', by omega, h2, rfl⟩, by show 34 - 14 < 34 - 12; omega⟩
    | 7, _, hg =>
      obtain ⟨a', at', e', h1, h2⟩ := r3n_7 B n hB hl hn a N T at_ e hg
      exact .inl ⟨_, h1, by show 16 < 34; omega, ⟨8, a', at', e', by omega, h2, rfl⟩, by show 34 - 16 < 34 - 14; omega⟩
    | 8, _, hg =>
      obtain ⟨a', at', e', h1, h2⟩ := r3n_8 B n hB hl hn a N T at_ e hg
      exact .inl ⟨_, h1, by show 18 < 34; omega, ⟨9, a', at', e', by omega, h2, rfl⟩, by show 34 - 18 < 34 - 16; omega⟩
    | 9, _, hg =>
      obtain ⟨a', at', e', h1, h2⟩ := r3n_9 B n hB hl hn a N T at_ e hg
      exact .inl ⟨_, h1, by show 20 < 34; omega, ⟨10, a', at', e', by omega, h2, rfl⟩, by show 34 - 20 < 34 - 18; omega⟩
    | 10, _, hg =>
      obtain ⟨a', at', e', h1, h2⟩ := r3n_10 B n hB hl hn a N T at_ e hg
      exact .inl ⟨_, h1, by show 22 < 34; omega, ⟨11, a', at', e', by omega, h2, rfl⟩, by show 34 - 22 < 34 - 20; omega⟩
    | 11, _, hg =>
      obtain ⟨a', at', e', h1, h2⟩ := r3n_11 B n hB hl hn a N T at_ e hg
      exact .inl ⟨_, h1, by show 24 < 34; omega, ⟨12, a', at', e', by omega, h2, rfl⟩, by show 34 - 24 < 34 - 22; omega⟩
    | 12, _, hg =>
      obtain ⟨a', at', e', h1, h2⟩ := r3n_12 B n hB hl hn a N T at_ e hg
      exact .inl ⟨_, h1, by show 26 < 34; omega, ⟨13, a', at', e', by omega, h2, rfl⟩, by show 34 - 26 < 34 - 24; omega⟩
    | 13, _, hg =>
      obtain ⟨a', at', e', h1, h2⟩ := r3n_13 B n hB hl hn a N T at_ e hg
      exact .inl ⟨_, h1, by show 28 < 34; omega, ⟨14, a', at', e', by omega, h2, rfl⟩, by show 34 - 28 < 34 - 26; omega⟩
    | 14, _, hg =>
      obtain ⟨a', at', e', h1, h2⟩ := r3n_14 B n hB hl hn a N T at_ e hg
      exact .inl ⟨_, h1, by show 30 < 34; omega, ⟨15, a', at', e', by omega, h2, rfl⟩, by show 34 - 30 < 34 - 28; omega⟩
    | 15, _, hg =>
      obtain ⟨a', at', e', h1, h2⟩ := r3n_15 B n hB hl hn a N T at_ e hg
      exact .inl ⟨_, h1, by show 32 < 34; omega, ⟨16, a', at', e', by omega, h2, rfl⟩, by show 34 - 32 < 34 - 30; omega⟩
    | 16, _, hg =>
      refine .inr ⟨0, stn n B at_ e a, ?_, rfl, a, at_, e, rfl, hg⟩
      show f18_3 (32, stn n B at_ e a) = _
      simp -implicitDefEqProofs only [f18_3, f18_3_32, stn, sts, K.asI4_i, asI_i, asN_n, asL_l, asB_b, asX_x, asE_nil, ↓y1, y2, y3, y4, y5, y6, ↓reduceIte, altK_0, altK_1, altK_2, altK_3, yg, ye, yf, ya, Nat.reduceEqDiff, Nat.reduceAdd, if_true, if_false]
    | k + 17, hk, _ => omega
theorem r2s_0 (a : Nat → Int) (N : Nat) (T : List Int) (at_ : Nat) (e : Int) (h : G2 B n a N T 0 at_ e) : ∃ (a' : Nat → Int) (at' : Nat) (e' : Int), f18_2 (1, sts n B at_ e a N T) = some (3, sts n B at' e' a' N T) ∧ G2 B n a' N T 1 at' e' := by
  obtain ⟨v1, v2, at1, at2, e1, e2, ef, p1, q1, f1, w1, w2, g1, g2⟩ := s2 B n hB hl hn 0 (by omega) a N T at_ e h
  by_cases c1 : 23 < v1
  · exact ⟨_, at2, ef, by simp -implicitDefEqProofs only [f18_2, f18_2_1, sts, upd, K.asI4_i, asI_i, asN_n, asL_l, asB_b, asE_nil, ↓Bool.cond_decide, ↓reduceIte, altK_0, altK_1, altK_2, altK_3, Nat.reduceEqDiff, Nat.reduceAdd, p1, q1, w1, w2, c1, f1], g1 (.inl c1)⟩
  by_cases c2 : 24 < v2
  · exact ⟨_, at2, ef, by simp -implicitDefEqProofs only [f18_2, f18_2_1, sts, upd, K.asI4_i, asI_i, asN_n, asL_l, asB_b, asE_nil, ↓Bool.cond_decide, ↓reduceIte, altK_0, altK_1, altK_2, altK_3, Nat.reduceEqDiff, Nat.reduceAdd, p1, q1, w1, w2, c1, c2, f1], g1 (.inr c2)⟩
  exact ⟨_, at2, e2, by simp -implicitDefEqProofs only [f18_2, f18_2_1, sts, upd, K.asI4_i, asI_i, asN_n, asL_l, asB_b, asE_nil, ↓Bool.cond_decide, ↓reduceIte, altK_0, altK_1, altK_2, altK_3, Nat.reduceEqDiff, Nat.reduceAdd, p1, q1, w1, w2, c1, c2], g2 c1 c2⟩
theorem r2s_1 (a : Nat → Int) (N : Nat) (T : List Int) (at_ : Nat) (e : Int) (h : G2 B n a N T 1 at_ e) : ∃ (a' : Nat → Int) (at' : Nat) (e' : Int), f18_2 (3, sts n B at_ e a N T) = some (5, sts n B at' e' a' N T) ∧ G2 B n a' N T 2 at' e' := by
  obtain ⟨v1, v2, at1, at2, e1, e2, ef, p1, q1, f1, w1, w2, g1, g2⟩ := s2 B n hB hl hn 1 (by omega) a N T at_ e h
  by_cases c1 : 23 < v1
  · exact ⟨_, at2, ef, by simp -implicitDefEqProofs only [f18_2, f18_2_3, sts, upd, K.asI4_i, asI_i, asN_n, asL_l, asB_b, asE_nil, ↓Bool.cond_decide, ↓reduceIte, altK_0, altK_1, altK_2, altK_3, Nat.reduceEqDiff, Nat.reduceAdd, p1, q1, w1, w2, c1, f1], g1 (.inl c1)⟩
  by_cases c2 : 24 < v2
  · exact ⟨_, at2, ef, by simp -implicitDefEqProofs only [f18_2, f18_2_3, sts, upd, K.asI4_i, asI_i, asN_n, asL_l, asB_b, asE_nil, ↓Bool.cond_decide, ↓reduceIte, altK_0, altK_1, altK_2, altK_3, Nat.reduceEqDiff, Nat.reduceAdd, p1, q1, w1, w2, c1, c2, f1], g1 (.inr c2)⟩
  exact ⟨_, at2, e2, by simp -implicitDefEqProofs only [f18_2, f18_2_3, sts, upd, K.asI4_i, asI_i, asN_n, asL_l, asB_b, asE_nil, ↓Bool.cond_decide, ↓reduceIte, altK_0, altK_1, altK_2, altK_3, Nat.reduceEqDiff, Nat.reduceAdd, p1, q1, w1, w2, c1, c2], g2 c1 c2⟩
theorem r2s_2 (a : Nat → Int) (N : Nat) (T : List Int) (at_ : Nat) (e : Int) (h : G2 B n a N T 2 at_ e) : ∃ (a' : Nat → Int) (at' : Nat) (e' : Int), f18_2 (5, sts n B at_ e a N T) = some (7, sts n B at' e' a' N T) ∧ G2 B n a' N T 3 at' e' := by
  obtain ⟨v1, v2, at1, at2, e1, e2, ef, p1, q1, f1, w1, w2, g1, g2⟩ := s2 B n hB hl hn 2 (by omega) a N T at_ e h
  by_cases c1 : 23 < v1
  · exact ⟨_, at2, ef, by simp -implicitDefEqProofs only [f18_2, f18_2_5, sts, upd, K.asI4_i, asI_i, asN_n, asL_l, asB_b, asE_nil, ↓Bool.cond_decide, ↓reduceIte, altK_0, altK_1, altK_2, altK_3, Nat.reduceEqDiff, Nat.reduceAdd, p1, q1, w1, w2, c1, f1], g1 (.inl c1)⟩
  by_cases c2 : 24 < v2
  · exact ⟨_, at2, ef, by simp -implicitDefEqProofs only [f18_2, f18_2_5, sts, upd, K.asI4_i, asI_i, asN_n, asL_l, asB_b, asE_nil, ↓Bool.cond_decide, ↓reduceIte, altK_0, altK_1, altK_2, altK_3, Nat.reduceEqDiff, Nat.reduceAdd, p1, q1, w1, w2, c1, c2, f1], g1 (.inr c2)⟩
  exact ⟨_, at2, e2, by simp -implicitDefEqProofs only [f18_2, f18_2_5, sts, upd, K.asI4_i, asI_i, asN_n, asL_l, asB_b, asE_nil, ↓Bool.cond_decide, ↓reduceIte, altK_0, altK_1, altK_2, altK_3, Nat.reduceEqDiff, Nat.reduceAdd, p1, q1, w1, w2, c1, c2], g2 c1 c2⟩
theorem r2s_3 (a : Nat → Int) (N : Nat) (T : List Int) (at_ : Nat) (e : Int) (h : G2 B n a N T 3 at_ e) : ∃ (a' : Nat → Int) (at' : Nat) (e' : Int), f18_2 (7, sts n B at_ e a N T) = some (9, sts n B at' e' a' N T) ∧ G2 B n a' N T 4 at' e' := by
  obtain ⟨v1, v2, at1, at2, e1, e2, ef, p1, q1, f1, w1, w2, g1, g2⟩ := s2 B n hB hl hn 3 (by omega) a N T at_ e h
  by_cases c1 : 23 < v1
  · exact ⟨_, at2, ef, by simp -implicitDefEqProofs only [f18_2, f18_2_7, sts, upd, K.asI4_i, asI_i, asN_n, asL_l, asB_b, asE_nil, ↓Bool.cond_decide, ↓reduceIte, altK_0, altK_1, altK_2, altK_3, Nat.reduceEqDiff, Nat.reduceAdd, p1, q1, w1, w2, c1, f1], g1 (.inl c1)⟩
  by_cases c2 : 24 < v2
  · exact ⟨_, at2, ef, by simp -implicitDefEqProofs only [f18_2, f18_2_7, sts, upd, K.asI4_i, asI_i, asN_n, asL_l, asB_b, asE_nil, ↓Bool.cond_decide, ↓reduceIte, altK_0, altK_1, altK_2, altK_3, Nat.reduceEqDiff, Nat.reduceAdd, p1, q1, w1, w2, c1, c2, f1], g1 (.inr c2)⟩
  exact ⟨_, at2, e2, by simp -implicitDefEqProofs only [f18_2, f18_2_7, sts, upd, K.asI4_i, asI_i, asN_n, asL_l, asB_b, asE_nil, ↓Bool.cond_decide, ↓reduceIte, altK_0, altK_1, altK_2, altK_3, Nat.reduceEqDiff, Nat.reduceAdd, p1, q1, w1, w2, c1, c2], g2 c1 c2⟩
theorem r3s_0 (a : Nat → Int) (N : Nat) (T : List Int) (at_ : Nat) (e : Int) (h : G3 B n a N T 0 at_ e) : ∃ (a' : Nat → Int) (at' : Nat) (e' : Int), f18_3 (1, sts n B at_ e a N T) = some (3, sts n B at' e' a' N T) ∧ G3 B n a' N T 1 at' e' := by
  obtain ⟨v, at', e', q, g⟩ := s3 B n hB hl hn 0 (by omega) a N T at_ e h
  have q : g34 (0, [.i (a 9), .n n, .l B, .i (at_ : Int), .i e]) = some (0, [.i v, .n n, .l B, .i (at' : Int), .i e']) := q
  exact ⟨_, at', e', by simp -implicitDefEqProofs only [f18_3, f18_3_1, sts, upd, K.g23, K.g23_0, K.asI4_i, asI_i, asN_n, asL_l, asB_b, asE_nil, ↓Bool.cond_decide, ↓reduceIte, altK_0, altK_1, altK_2, altK_3, Nat.reduceEqDiff, Nat.reduceAdd, q], g⟩
theorem r3s_1 (a : Nat → Int) (N : Nat) (T : List Int) (at_ : Nat) (e : Int) (h : G3 B n a N T 1 at_ e) : ∃ (a' : Nat → Int) (at' : Nat) (e' : Int), f18_3 (3, sts n B at_ e a N T) = some (5, sts n B at' e' a' N T) ∧ G3 B n a' N T 2 at' e' := by
  obtain ⟨v, at', e', q, g⟩ := s3 B n hB hl hn 1 (by omega) a N T at_ e h
  have q : g34 (0, [.i (a 9), .n n, .l B, .i (at_ : Int), .i e]) = some (0, [.i v, .n n, .l B, .i (at' : Int), .i e']) := q
  exact ⟨_, at', e', by simp -implicitDefEqProofs only [f18_3, f18_3_3, sts, upd, K.g23, K.g23_1, K.asI4_i, asI_i, asN_n, asL_l, asB_b, asE_nil, ↓Bool.cond_decide, ↓reduceIte, altK_0, altK_1, altK_2, altK_3, Nat.reduceEqDiff, Nat.reduceAdd, q], g⟩
theorem r3s_2 (a : Nat → Int) (N : Nat) (T : List Int) (at_ : Nat) (e : Int) (h : G3 B n a N T 2 at_ e) : ∃ (a' : Nat → Int) (at' : Nat) (e' : Int), f18_3 (5, sts n B at_ e a N T) = some (7, sts n B at' e' a' N T) ∧ G3 B n a' N T 3 at' e' := by
  obtain ⟨v, at', e', q, g⟩ := s3 B n hB hl hn 2 (by omega) a N T at_ e h
  have q : g34 (0, [.i (a 9), .n n, .l B, .i (at_ : Int), .i e]) = some (0, [.i v, .n n, .l B, .i (at' : Int), .i e']) := q
  exact ⟨_, at', e', by simp -implicitDefEqProofs only [f18_3, f18_3_5, sts, upd, K.g23, K.g23_2, K.asI4_i, asI_i, asN_n, asL_l, asB_b, asE_nil, ↓Bool.cond_decide, ↓reduceIte, altK_0, altK_1, altK_2, altK_3, Nat.reduceEqDiff, Nat.reduceAdd, q], g⟩
theorem r3s_3 (a : Nat → Int) (N : Nat) (T : List Int) (at_ : Nat) (e : Int) (h : G3 B n a N T 3 at_ e) : ∃ (a' : Nat → Int) (at' : Nat) (e' : Int), f18_3 (7, sts n B at_ e a N T) = some (9, sts n B at' e' a' N T) ∧ G3 B n a' N T 4 at' e' := by
  obtain ⟨v, at', e', q, g⟩ := s3 B n hB hl hn 3 (by omega) a N T at_ e h
  have q : g34 (0, [.i (a 9), .n n, .l B, .i (at_ : Int), .i e]) = some (0, [.i v, .n n, .l B, .i (at' : Int), .i e']) := q
  exact ⟨_, at', e', by simp -implicitDefEqProofs only [f18_3, f18_3_7, sts, upd, K.g23, K.g23_3, K.asI4_i, asI_i, asN_n, asL_l, asB_b, asE_nil, ↓Bool.cond_decide, ↓reduceIte, altK_0, altK_1, altK_2, altK_3, Nat.reduceEqDiff, Nat.reduceAdd, q], g⟩
theorem r3s_4 (a : Nat → Int) (N : Nat) (T : List Int) (at_ : Nat) (e : Int) (h : G3 B n a N T 4 at_ e) : ∃ (a' : Nat → Int) (at' : Nat) (e' : Int), f18_3 (9, sts n B at_ e a N T) = some (11, sts n B at' e' a' N T) ∧ G3 B n a' N T 5 at' e' := by
  obtain ⟨v, at', e', q, g⟩ := s3 B n hB hl hn 4 (by omega) a N T at_ e h
  have q : g34 (0, [.i (a 10), .n n, .l B, .i (at_ : Int), .i e]) = some (0, [.i v, .n n, .l B, .i (at' : Int), .i e']) := q
  exact ⟨_, at', e', by simp -implicitDefEqProofs only [f18_3, f18_3_9, sts, upd, K.g23, K.g23_4, K.asI4_i, asI_i, asN_n, asL_l, asB_b, asE_nil, ↓Bool.cond_decide, ↓reduceIte, altK_0, altK_1, altK_2, altK_3, Nat.reduceEqDiff, Nat.reduceAdd, q], g⟩
theorem r3s_5 (a : Nat → Int) (N : Nat) (T : List Int) (at_ : Nat) (e : Int) (h : G3 B n a N T 5 at_ e) : ∃ (a' : Nat → Int) (at' : Nat) (e' : Int), f18_3 (11, sts n B at_ e a N T) = some (13, sts n B at' e' a' N T) ∧ G3 B n a' N T 6 at' e' := by
  obtain ⟨v, at', e', q, g⟩ := s3 B n hB hl hn 5 (by omega) a N T at_ e h
  have q : g34 (0, [.i (a 10), .n n, .l B, .i (at_ : Int), .i e]) = some (0, [.i v, .n n, .l B, .i (at' : Int), .i e']) := q
  exact ⟨_, at', e', by simp -implicitDefEqProofs only [f18_3, f18_3_11, sts, upd, K.g23, K.g23_5, K.asI4_i, asI_i, asN_n, asL_l, asB_b, asE_nil, ↓Bool.cond_decide, ↓reduceIte, altK_0, altK_1, altK_2, altK_3, Nat.reduceEqDiff, Nat.reduceAdd, q], g⟩
theorem r3s_6 (a : Nat → Int) (N : Nat) (T : List Int) (at_ : Nat) (e : Int) (h : G3 B n a N T 6 at_ e) : ∃ (a' : Nat → Int) (at' : Nat) (e' : Int), f18_3 (13, sts n B at_ e a N T) = some (15, sts n B at' e' a' N T) ∧ G3 B n a' N T 7 at' e' := by
  obtain ⟨v, at', e', q, g⟩ := s3 B n hB hl hn 6 (by omega) a N T at_ e h
  have q : g34 (0, [.i (a 10), .n n, .l B, .i (at_ : Int), .i e]) = some (0, [.i v, .n n, .l B, .i (at' : Int), .i e']) := q
  exact ⟨_, at', e', by simp -implicitDefEqProofs only [f18_3, f18_3_13, sts, upd, K.g23, K.g23_6, K.asI4_i, asI_i, asN_n, asL_l, asB_b, asE_nil, ↓Bool.cond_decide, ↓reduceIte, altK_0, altK_1, altK_2, altK_3, Nat.reduceEqDiff, Nat.reduceAdd, q], g⟩
theorem r3s_7 (a : Nat → Int) (N : Nat) (T : List Int) (at_ : Nat) (e : Int) (h : G3 B n a N T 7 at_ e) : ∃ (a' : Nat → Int) (at' : Nat) (e' : Int), f18_3 (15, sts n B at_ e a N T) = some (17, sts n B at' e' a' N T) ∧ G3 B n a' N T 8 at' e' := by
  obtain ⟨v, at', e', q, g⟩ := s3 B n hB hl hn 7 (by omega) a N T at_ e h
  have q : g34 (0, [.i (a 10), .n n, .l B, .i (at_ : Int), .i e]) = some (0, [.i v, .n n, .l B, .i (at' : Int), .i e']) := q
  exact ⟨_, at', e', by simp -implicitDefEqProofs only [f18_3, f18_3_15, sts, upd, K.g23, K.g23_7, K.asI4_i, asI_i, asN_n, asL_l, asB_b, asE_nil, ↓Bool.cond_decide, ↓reduceIte, altK_0, altK_1, altK_2, altK_3, Nat.reduceEqDiff, Nat.reduceAdd, q], g⟩
theorem r3s_8 (a : Nat → Int) (N : Nat) (T : List Int) (at_ : Nat) (e : Int) (h : G3 B n a N T 8 at_ e) : ∃ (a' : Nat → Int) (at' : Nat) (e' : Int), f18_3 (17, sts n B at_ e a N T) = some (19, sts n B at' e' a' N T) ∧ G3 B n a' N T 9 at' e' := by
  obtain ⟨v, at', e', q, g⟩ := s3 B n hB hl hn 8 (by omega) a N T at_ e h
  have q : g34 (0, [.i (a 11), .n n, .l B, .i (at_ : Int), .i e]) = some (0, [.i v, .n n, .l B, .i (at' : Int), .i e']) := q
  exact ⟨_, at', e', by simp -implicitDefEqProofs only [f18_3, f18_3_17, sts, upd, K.g23, K.g23_8, K.asI4_i, asI_i, asN_n, asL_l, asB_b, asE_nil, ↓Bool.cond_decide, ↓reduceIte, altK_0, altK_1, altK_2, altK_3, Nat.reduceEqDiff, Nat.reduceAdd, q], g⟩
theorem r3s_9 (a : Nat → Int) (N : Nat) (T : List Int) (at_ : Nat) (e : Int) (h : G3 B n a N T 9 at_ e) : ∃ (a' : Nat → Int) (at' : Nat) (e' : Int), f18_3 (19, sts n B at_ e a N T) = some (21, sts n B at' e' a' N T) ∧ G3 B n a' N T 10 at' e' := by
  obtain ⟨v, at', e', q, g⟩ := s3 B n hB hl hn 9 (by omega) a N T at_ e h
  have q : g34 (0, [.i (a 11), .n n, .l B, .i (at_ : Int), .i e]) = some (0, [.i v, .n n, .l B, .i (at' : Int), .i e']) := q
  exact ⟨_, at', e', by simp -implicitDefEqProofs only [f18_3, f18_3_19, sts, upd, K.g23, K.g23_9, K.asI4_i, asI_i, asN_n, asL_l, asB_b, asE_nil, ↓Bool.cond_decide, ↓reduceIte, altK_0, altK_1, altK_2, altK_3, Nat.reduceEqDiff, Nat.reduceAdd, q], g⟩
theorem r3s_10 (a : Nat → Int) (N : Nat) (T : List Int) (at_ : Nat) (e : Int) (h : G3 B n a N T 10 at_ e) : ∃ (a' : Nat → Int) (at' : Nat) (e' : Int), f18_3 (21, sts n B at_ e a N T) = some (23, sts n B at' e' a' N T) ∧ G3 B n a' N T 11 at' e' := by
  obtain ⟨v, at', e', q, g⟩ := s3 B n hB hl hn 10 (by omega) a N T at_ e h
  have q : g34 (0, [.i (a 11), .n n, .l B, .i (at_ : Int), .i e]) = some (0, [.i v, .n n, .l B, .i (at' : Int), .i e']) := q
  exact ⟨_, at', e', by simp -implicitDefEqProofs only [f18_3, f18_3_21, sts, upd, K.g23, K.g23_10, K.asI4_i, asI_i, asN_n, asL_l, asB_b, asE_nil, ↓Bool.cond_decide, ↓reduceIte, altK_0, altK_1, altK_2, altK_3, Nat.reduceEqDiff, Nat.reduceAdd, q], g⟩
theorem r3s_11 (a : Nat → Int) (N : Nat) (T : List Int) (at_ : Nat) (e : Int) (h : G3 B n a N T 11 at_ e) : ∃ (a' : Nat → Int) (at' : Nat) (e' : Int), f18_3 (23, sts n B at_ e a N T) = some (25, sts n B at' e' a' N T) ∧ G3 B n a' N T 12 at' e' := by
  obtain ⟨v, at', e', q, g⟩ := s3 B n hB hl hn 11 (by omega) a N T at_ e h
  have q : g34 (0, [.i (a 11), .n n, .l B, .i (at_ : Int), .i e]) = some (0, [.i v, .n n, .l B, .i (at' : Int), .i e']) := q
  exact ⟨_, at', e', by simp -implicitDefEqProofs only [f18_3, f18_3_23, sts, upd, K.g23, K.g23_11, K.asI4_i, asI_i, asN_n, asL_l, asB_b, asE_nil, ↓Bool.cond_decide, ↓reduceIte, altK_0, altK_1, altK_2, altK_3, Nat.reduceEqDiff, Nat.reduceAdd, q], g⟩
theorem r3s_12 (a : Nat → Int) (N : Nat) (T : List Int) (at_ : Nat) (e : Int) (h : G3 B n a N T 12 at_ e) : ∃ (a' : Nat → Int) (at' : Nat) (e' : Int), f18_3 (25, sts n B at_ e a N T) = some (27, sts n B at' e' a' N T) ∧ G3 B n a' N T 13 at' e' := by
  obtain ⟨v, at', e', q, g⟩ := s3 B n hB hl hn 12 (by omega) a N T at_ e h
  have q : g34 (0, [.i (a 12), .n n, .l B, .i (at_ : Int), .i e]) = some (0, [.i v, .n n, .l B, .i (at' : Int), .i e']) := q
  exact ⟨_, at', e', by simp -implicitDefEqProofs only [f18_3, f18_3_25, sts, upd, K.g23, K.g23_12, K.asI4_i, asI_i, asN_n, asL_l, asB_b, asE_nil, ↓Bool.cond_decide, ↓reduceIte, altK_0, altK_1, altK_2, altK_3, Nat.reduceEqDiff, Nat.reduceAdd, q], g⟩
theorem r3s_13 (a : Nat → Int) (N : Nat) (T : List Int) (at_ : Nat) (e : Int) (h : G3 B n a N T 13 at_ e) : ∃ (a' : Nat → Int) (at' : Nat) (e' : Int), f18_3 (27, sts n B at_ e a N T) = some (29, sts n B at' e' a' N T) ∧ G3 B n a' N T 14 at' e' := by
  obtain ⟨v, at', e', q, g⟩ := s3 B n hB hl hn 13 (by omega) a N T at_ e h
  have q : g34 (0, [.i (a 12), .n n, .l B, .i (at_ : Int), .i e]) = some (0, [.i v, .n n, .l B, .i (at' : Int), .i e']) := q
  exact ⟨_, at', e', by simp -implicitDefEqProofs only [f18_3, f18_3_27, sts, upd, K.g23, K.g23_13, K.asI4_i, asI_i, asN_n, asL_l, asB_b, asE_nil, ↓Bool.cond_decide, ↓reduceIte, altK_0, altK_1, altK_2, altK_3, Nat.reduceEqDiff, Nat.reduceAdd, q], g⟩
theorem r3s_14 (a : Nat → Int) (N : Nat) (T : List Int) (at_ : Nat) (e : Int) (h : G3 B n a N T 14 at_ e) : ∃ (a' : Nat → Int) (at' : Nat) (e' : Int), f18_3 (29, sts n B at_ e a N T) = some (31, sts n B at' e' a' N T) ∧ G3 B n a' N T 15 at' e' := by
  obtain ⟨v, at', e', q, g⟩ := s3 B n hB hl hn 14 (by omega) a N T at_ e h
  have q : g34 (0, [.i (a 12), .n n, .l B, .i (at_ : Int), .i e]) = some (0, [.i v, .n n, .l B, .i (at' : Int), .i e']) := q
  exact ⟨_, at', e', by simp -implicitDefEqProofs only [f18_3, f18_3_29, sts, upd, K.g23, K.g23_14, K.asI4_i, asI_i, asN_n, asL_l, asB_b, asE_nil, ↓Bool.cond_decide, ↓reduceIte, altK_0, altK_1, altK_2, altK_3, Nat.reduceEqDiff, Nat.reduceAdd, q], g⟩
theorem r3s_15 (a : Nat → Int) (N : Nat) (T : List Int) (at_ : Nat) (e : Int) (h : G3 B n a N T 15 at_ e) : ∃ (a' : Nat → Int) (at' : Nat) (e' : Int), f18_3 (31, sts n B at_ e a N T) = some (33, sts n B at' e' a' N T) ∧ G3 B n a' N T 16 at' e' := by
  obtain ⟨v, at', e', q, g⟩ := s3 B n hB hl hn 15 (by omega) a N T at_ e h
  have q : g34 (0, [.i (a 12), .n n, .l B, .i (at_ : Int), .i e]) = some (0, [.i v, .n n, .l B, .i (at' : Int), .i e']) := q
  exact ⟨_, at', e', by simp -implicitDefEqProofs only [f18_3, f18_3_31, sts, upd, K.g23, K.g23_15, K.asI4_i, asI_i, asN_n, asL_l, asB_b, asE_nil, ↓Bool.cond_decide, ↓reduceIte, altK_0, altK_1, altK_2, altK_3, Nat.reduceEqDiff, Nat.reduceAdd, q], g⟩
theorem run2s (a : Nat → Int) (N : Nat) (T : List Int) (at_ : Nat) (e : Int) (h : G2 B n a N T 0 at_ e) : ∃ (a' : Nat → Int) (at' : Nat) (e' : Int), L18_2 (1, sts n B at_ e a N T) = some (1, sts n B at' e' a' N T) ∧ G2 B n a' N T 4 at' e' := by
  have ind := loopL_ind (m := 10) (f := f18_2) (fun s => ∃ (k : Nat) (a : Nat → Int) (at_ : Nat) (e : Int), k ≤ 4 ∧ G2 B n a N T k at_ e ∧ s = (2 * k + 1, sts n B at_ e a N T)) (fun s => 10 - s.1) (fun j r => j = 1 ∧ ∃ (a' : Nat → Int) (at' : Nat) (e' : Int), r = sts n B at' e' a' N T ∧ G2 B n a' N T 4 at' e') (fun s hs => ?_) (1, sts n B at_ e a N T) ⟨0, a, at_, e, by omega, h, rfl⟩ (by show 10 - _ < _; omega)
  · obtain ⟨j, r, h1, rfl, a', at', e', rfl, h2⟩ := ind
    exact ⟨a', at', e', h1, h2⟩
  · obtain ⟨k, a, at_, e, hk, hg, rfl⟩ := hs
    match k, hk, hg with
    | 0, _, hg =>
      obtain ⟨a', at', e', h1, h2⟩ := r2s_0 B n hB hl hn a N T at_ e hg
      exact .inl ⟨_, h1, by show 3 < 10; omega, ⟨1, a', at', e', by omega, h2, rfl⟩, by show 10 - 3 < 10 - 1; omega⟩
    | 1, _, hg =>
      obtain ⟨a', at', e', h1, h2⟩ := r2s_1 B n hB hl hn a N T at_ e hg
      exact .inl ⟨_, h1, by show 5 < 10; omega, ⟨2, a', at', e', by omega, h2, rfl⟩, by show 10 - 5 < 10 - 3; omega⟩
    | 2, _, hg =>
      obtain ⟨a', at', e', h1, h2⟩ := r2s_2 B n hB hl hn a N T at_ e hg
      exact .inl ⟨_, h1, by show 7 < 10; omega, ⟨3, a', at', e', by omega, h2, rfl⟩, by show 10 - 7 < 10 - 5; omega⟩
    | 3, _, hg =>
      obtain ⟨a', at', e', h1, h2⟩ := r2s_3 B n hB hl hn a N T at_ e hg
      exact .inl ⟨_, h1, by show 9 < 10; omega, ⟨4, a', at', e', by omega, h2, rfl⟩, by show 10 - 9 < 10 - 7; omega⟩
    | 4, _, hg =>
      refine .inr ⟨1, sts n B at_ e a N T, ?_, rfl, a, at_, e, rfl, hg⟩
      show f18_2 (9, sts n B at_ e a N T) = _
      simp -implicitDefEqProofs only [f18_2, f18_2_9, stn, sts, K.asI4_i, asI_i, asN_n, asL_l, asB_b, asX_x, asE_nil, ↓y1, y2, y3, y4, y5, y6, ↓reduceIte, altK_0, altK_1, altK_2, altK_3, yg, ye, yf, ya, Nat.reduceEqDiff, Nat.reduceAdd, if_true, if_false]
    | k + 5, hk, _ => omega
theorem run3s (a : Nat → Int) (N : Nat) (T : List Int) (at_ : Nat) (e : Int) (h : G3 B n a N T 0 at_ e) : ∃ (a' : Nat → Int) (at' : Nat) (e' : Int), L18_3 (1, sts n B at_ e a N T) = some (1, sts n B at' e' a' N T) ∧ G3 B n a' N T 16 at' e' := by
  have ind := loopL_ind (m := 34) (f := f18_3) (fun s => ∃ (k : Nat) (a : Nat → Int) (at_ : Nat) (e : Int), k ≤ 16 ∧ G3 B n a N T k at_ e ∧ s = (2 * k + 1, sts n B at_ e a N T)) (fun s => 34 - s.1) (fun j r => j = 1 ∧ ∃ (a' : Nat → Int) (at' : Nat) (e' : Int), r = sts n B at' e' a' N T ∧ G3 B n a' N T 16 at' e') (fun s hs => ?_) (1, sts n B at_ e a N T) ⟨0, a, at_, e, by omega, h, rfl⟩ (by show 34 - _ < _; omega)
  · obtain ⟨j, r, h1, rfl, a', at', e', rfl, h2⟩ := ind
    exact ⟨a', at', e', h1, h2⟩
  · obtain ⟨k, a, at_, e, hk, hg, rfl⟩ := hs
    match k, hk, hg with
    | 0, _, hg =>
      obtain ⟨a', at', e', h1, h2⟩ := r3s_0 B n hB hl hn a N T at_ e hg
      exact .inl ⟨_, h1, by show 3 < 34; omega, ⟨1, a', at', e', by omega, h2, rfl⟩, by show 34 - 3 < 34 - 1; omega⟩
    | 1, _, hg =>
      obtain ⟨a', at', e', h1, h2⟩ := r3s_1 B n hB hl hn a N T at_ e hg
      exact .inl ⟨_, h1, by show 5 < 34; omega, ⟨2, a', at', e', by omega, h2, rfl⟩, by show 34 - 5 < 34 - 3; omega⟩
    | 2, _, hg =>
      obtain ⟨a', at', e', h1, h2⟩ := r3s_2 B n hB hl hn a N T at_ e hg
      exact .inl ⟨_, h1, by show 7 < 34; omega, ⟨3, a', at', e', by omega, h2, rfl⟩, by show 34 - 7 < 34 - 5; omega⟩
    | 3, _, hg =>
      obtain ⟨a', at', e', h1, h2⟩ := r3s_3 B n hB hl hn a N T at_ e hg
      exact .inl ⟨_, h1, by show 9 < 34; omega, ⟨4, a', at', e', by omega, h2, rfl⟩, by show 34 - 9 < 34 - 7; omega⟩
    | 4, _, hg =>
      obtain ⟨a', at', e', h1, h2⟩ := r3s_4 B n hB hl hn a N T at_ e hg
      exact .inl ⟨_, h1, by show 11 < 34; omega, ⟨5, a', at', e', by omega, h2, rfl⟩, by show 34 - 11 < 34 - 9; omega⟩
    | 5, _, hg =>
      obtain ⟨a', at', e', h1, h2⟩ := r3s_5 B n hB hl hn a N T at_ e hg
      exact .inl ⟨_, h1, by show 13 < 34; omega, ⟨6, a', at', e', by omega, h2, rfl⟩, by show 34 - 13 < 34 - 11; omega⟩
    | 6, _, hg =>
      obtain ⟨a', at', e', h1, h2⟩ := r3s_6 B n hB hl hn a N T at_ e hg
      exact .inl ⟨_, h1, by show 15 < 34; omega, ⟨7, a', at', e', by omega, h2, rfl⟩, by show 34 - 15 < 34 - 13; omega⟩
    | 7, _, hg =>
      obtain ⟨a', at', e', h1, h2⟩ := r3s_7 B n hB hl hn a N T at_ e hg
      exact .inl ⟨_, h1, by show 17 < 34; omega, ⟨8, a', at', e', by omega, h2, rfl⟩, by show 34 - 17 < 34 - 15; omega⟩
    | 8, _, hg =>
      obtain ⟨a', at', e', h1, h2⟩ := r3s_8 B n hB hl hn a N T at_ e hg
      exact .inl ⟨_, h1, by show 19 < 34; omega, ⟨9, a', at', e', by omega, h2, rfl⟩, by show 34 - 19 < 34 - 17; omega⟩
    | 9, _, hg =>
      obtain ⟨a', at', e', h1, h2⟩ := r3s_9 B n hB hl hn a N T at_ e hg
      exact .inl ⟨_, h1, by show 21 < 34; omega, ⟨10, a', at', e', by omega, h2, rfl⟩, by show 34 - 21 < 34 - 19; omega⟩
    | 10, _, hg =>
      obtain ⟨a', at', e', h1, h2⟩ := r3s_10 B n hB hl hn a N T at_ e hg
      exact .inl ⟨_, h1, by show 23 < 34; omega, ⟨11, a', at', e', by omega, h2, rfl⟩, by show 34 - 23 < 34 - 21; omega⟩
    | 11, _, hg =>
      obtain ⟨a', at', e', h1, h2⟩ := r3s_11 B n hB hl hn a N T at_ e hg
      exact .inl ⟨_, h1, by show 25 < 34; omega, ⟨12, a', at', e', by omega, h2, rfl⟩, by show 34 - 25 < 34 - 23; omega⟩
    | 12, _, hg =>
      obtain ⟨a', at', e', h1, h2⟩ := r3s_12 B n hB hl hn a N T at_ e hg
      exact .inl ⟨_, h1, by show 27 < 34; omega, ⟨13, a', at', e', by omega, h2, rfl⟩, by show 34 - 27 < 34 - 25; omega⟩
    | 13, _, hg =>
      obtain ⟨a', at', e', h1, h2⟩ := r3s_13 B n hB hl hn a N T at_ e hg
      exact .inl ⟨_, h1, by show 29 < 34; omega, ⟨14, a', at', e', by omega, h2, rfl⟩, by show 34 - 29 < 34 - 27; omega⟩
    | 14, _, hg =>
      obtain ⟨a', at', e', h1, h2⟩ := r3s_14 B n hB hl hn a N T at_ e hg
      exact .inl ⟨_, h1, by show 31 < 34; omega, ⟨15, a', at', e', by omega, h2, rfl⟩, by show 34 - 31 < 34 - 29; omega⟩
    | 15, _, hg =>
      obtain ⟨a', at', e', h1, h2⟩ := r3s_15 B n hB hl hn a N T at_ e hg
      exact .inl ⟨_, h1, by show 33 < 34; omega, ⟨16, a', at', e', by omega, h2, rfl⟩, by show 34 - 33 < 34 - 31; omega⟩
    | 16, _, hg =>
      refine .inr ⟨1, sts n B at_ e a N T, ?_, rfl, a, at_, e, rfl, hg⟩
      show f18_3 (33, sts n B at_ e a N T) = _
      simp -implicitDefEqProofs only [f18_3, f18_3_33, stn, sts, K.asI4_i, asI_i, asN_n, asL_l, asB_b, asX_x, asE_nil, ↓y1, y2, y3, y4, y5, y6, ↓reduceIte, altK_0, altK_1, altK_2, altK_3, yg, ye, yf, ya, Nat.reduceEqDiff, Nat.reduceAdd, if_true, if_false]
    | k + 17, hk, _ => omega
end
end Go.Proofs.Ytdngjlgbebmbhaa
