/-
  Which frames may be: the program's test and the document's. Conditions: none.
-/
import Derived.Test.YtdngjlgbebmbhaaDecG
import Derived.Test.YtdngjlgbebmbhaaBw
import Derived.KernelRfl
namespace Go.Proofs.Ytdngjlgbebmbhaa
open Go Go.Sx G
set_option maxRecDepth 100000
set_option linter.unusedVariables false
set_option linter.unusedSimpArgs false
attribute [local simp] asI_i asB_b asL_l asN_n asS_s asE_nil altK_none altK_0 altK_1 altK_2 altK_3 optK_some optK_none Bool.cond_decide Bool.cond_not Int.toNat_natCast
set_option linter.unusedSimpArgs false
theorem y1 {α : Type} (p : Prop) [Decidable p] (t e : α) : cond (decide p) t e = if p then t else e := Bool.cond_decide ..
theorem y2 {α : Type} (b : Bool) (t e : α) : cond (!b) t e = cond b e t := Bool.cond_not ..
theorem y3 {α : Type} (t e : α) : cond true t e = t := cond_true ..
theorem y4 {α : Type} (t e : α) : cond false t e = e := cond_false ..
theorem y5 : (!true) = false := Bool.not_true
theorem y6 : (!false) = true := Bool.not_false
theorem y7 (n : Nat) : 0 + n = n := Nat.zero_add n
theorem y8 {α : Type} (l : List α) : l ++ [] = l := List.append_nil l
theorem y9 (n : Nat) : n ≤ n := Nat.le_refl n
theorem ya {α : Type} (a : α) : (a = a) = True := eq_self a
theorem yb (p : Prop) : (True ∧ p) = p := true_and p
theorem yc (p : Prop) : (p ∧ True) = p := and_true p
theorem yd (p : Prop) : (p ∧ p) = p := and_self p
theorem ye : (¬ True) = False := not_true_eq_false
theorem yf : (¬ False) = True := not_false_eq_true
theorem yg {α : Type} (a b : α) : (a ≠ b) = ¬ (a = b) := ne_eq a b
theorem yh (h : Decidable True) : @decide True h = true := decide_true ..
theorem yi (h : Decidable False) : @decide False h = false := decide_false ..
theorem yj {p : Prop} [Decidable p] : (decide p = true) = p := decide_eq_true_eq
theorem yk (n : Nat) : ((n : Int)).toNat = n := Int.toNat_natCast n
/-! ### All of them -/
def allN : Nat → (Nat → Bool) → Bool
  | 0, _ => true
  | n + 1, p => allN n p && p n
theorem allN_iff {p : Nat → Bool} : ∀ {n : Nat}, allN n p = true ↔ ∀ k, k < n → p k = true
  | 0 => ⟨fun _ k h => absurd h (Nat.not_lt_zero k), fun _ => rfl⟩
  | n + 1 => by
    simp only [allN, Bool.and_eq_true, allN_iff (n := n)]
    refine ⟨fun ⟨h1, h2⟩ k hk => ?_, fun h => ⟨fun k hk => h k (by omega), h n (by omega)⟩⟩
    by_cases e : k = n
    · subst e; exact h2
    · exact h1 k (by omega)
theorem allN_not {p : Nat → Bool} : ∀ {n : Nat}, allN n p = false → ∃ k, k < n ∧ p k = false ∧ ∀ i, i < k → p i = true
  | 0, h => by cases h
  | n + 1, h => by
    by_cases c : allN n p = true
    · exact ⟨n, by omega, by simp only [allN, c, Bool.true_and] at h; exact h, allN_iff.1 c⟩
    · obtain ⟨k, h1, h2, h3⟩ := allN_not (n := n) (by simpa using c)
      exact ⟨k, by omega, h2, h3⟩
theorem loop_chk {f : Nat × List Leaf → Option (Nat × List Leaf)} (S : Nat → List Leaf) (N : Nat) (p : Nat → Bool) (Q : List Leaf → Prop) {j1 j2 : Nat} {r1 : List Leaf}
    (hs : ∀ k, k < N → p k = true → f (0, S k) = some (0, S (k + 1))) (hf : ∀ k, k < N → p k = false → ∃ r, f (0, S k) = some (1 + j2, r) ∧ Q r) (he : f (0, S N) = some (1 + j1, r1)) (hN : N < 1000000) :
    (allN N p = true ∧ loopL 1 f (0, S 0) = some (j1, r1)) ∨ (allN N p = false ∧ ∃ r, loopL 1 f (0, S 0) = some (j2, r) ∧ Q r) := by
  by_cases c : allN N p = true
  · left
    have h := allN_iff.1 c
    exact ⟨c, loopL_run (fun k => (0, S k)) N (fun k hk => ⟨hs k hk (h k hk), Nat.zero_lt_one⟩) he (by omega)⟩
  · right
    have c : allN N p = false := by simpa using c
    obtain ⟨k, h1, h2, h3⟩ := allN_not c
    obtain ⟨r, h4, h5⟩ := hf k h1 h2
    exact ⟨c, r, loopL_run (fun k => (0, S k)) k (fun i hi => ⟨hs i (by omega) (h3 i hi), Nat.zero_lt_one⟩) h4 (by omega), h5⟩
def ib (lo hi x : Int) : Bool := decide (lo ≤ x) && decide (x ≤ hi)
theorem ib_iff {lo hi x : Int} : ib lo hi x = true ↔ lo ≤ x ∧ x ≤ hi := by simp [ib]
theorem ib_not {lo hi x : Int} : ib lo hi x = false ↔ x < lo ∨ hi < x := by
  rw [← Bool.not_eq_true, ib_iff]; omega
/-! ### A frame's cells -/
def Ac (c : List NC) (j : Nat) : Int := (c.getD j ⟨0, []⟩).i
def Tc (c : List NC) : List Int := (c.getD 4 ⟨0, []⟩).l
def Nc (c : List NC) : Nat := (Tc c).length / 2
def Cj (c : List NC) (j : Nat) : NC := c.getD j ⟨0, []⟩
structure WF (c : List NC) : Prop where
  len : c.length = 29
  ton : (Tc c).length = Nc c * 2
  few : Nc c ≤ 5
theorem getc {c : List NC} (h : c.length = 29) {j : Nat} (hj : j < 29) : c[j]? = some (c.getD j ⟨0, []⟩) := by
  rw [List.getD_eq_getElem?_getD, List.getElem?_eq_getElem (by omega)]; rfl
def sub4 (c : List NC) (o : Nat) : List Int := List.map NC.i (List.take 4 (List.drop o c))
theorem sub4_len {c : List NC} (h : c.length = 29) {o : Nat} (ho : o + 4 ≤ 29) : (sub4 c o).length = 4 := by
  unfold sub4; rw [List.length_map, List.length_take, List.length_drop]; omega
theorem sub4_get {c : List NC} (h : c.length = 29) {o k : Nat} (ho : o + 4 ≤ 29) (hk : k < 4) : (sub4 c o).getD k 0 = Ac c (o + k) := by
  unfold sub4 Ac
  rw [List.getD_eq_getElem?_getD, List.getElem?_map, List.getElem?_take_of_lt hk, List.getElem?_drop, getc h (j := o + k) (by omega)]; rfl
theorem take4 {s : List Int} (h : s.length = 4) : List.take 4 s = s := List.take_of_length_le (by omega)
theorem gain_ok (s : List Int) (hs : s.length = 4) : g28 (0, [.l s]) = some (0, [.b (allN 4 fun k => ib 0 3 (s.getD k 0))]) := by
  have main := loop_chk (f := f28_0) (fun k => [.l s, .i (k : Int), .l s]) 4 (fun k => ib 0 3 (s.getD k 0)) (fun r => r = [.l s]) (j1 := 0) (j2 := 1) (r1 := [.l s]) (fun k hk hp => ?_) (fun k hk hp => ?_) ?_ (by omega)
  · have ht := take4 hs
    have h4 : (4 : Nat) ≤ s.length := by omega
    rcases main with ⟨c, h⟩ | ⟨c, r, h, rfl⟩
    · have hL : L28_0 (0, [.l s, .i 0, .l s]) = some (0, [.l s]) := h
      rw [c]
      simp -implicitDefEqProofs only [g28, g28_0, asI_i, asN_n, asL_l, asB_b, asX_x, asE_nil, ↓y1, y2, y3, y4, y5, y6, ↓reduceIte, y7, y8, y9, ya, yb, yc, yd, ye, yf, yg, yh, yi, yj, yk, optK_some, altK_0, altK_1, h4, ht, hL]
    · have hL : L28_0 (0, [.l s, .i 0, .l s]) = some (1, [.l s]) := h
      rw [c]
      simp -implicitDefEqProofs only [g28, g28_0, asI_i, asN_n, asL_l, asB_b, asX_x, asE_nil, ↓y1, y2, y3, y4, y5, y6, ↓reduceIte, y7, y8, y9, ya, yb, yc, yd, ye, yf, yg, yh, yi, yj, yk, optK_some, altK_0, altK_1, h4, ht, hL]
  · have hx := get_some (l := s) (i := k) (by omega)
    have hq := ib_iff.1 hp
    have w2 : IntKind.i64.wrap ((k : Int) + 1) = ((k + 1 : Nat) : Int) := wrap_nat (n := k + 1) (by omega)
    have c1 : (k : Int) < 4 := by omega
    have c2 : (0 : Int) ≤ k := by omega
    generalize s.getD k 0 = v at *
    have c3 : ¬ v < 0 := by omega
    have c4 : ¬ 3 < v := by omega
    simp -implicitDefEqProofs only [f28_0, f28_0_0, asI_i, asN_n, asL_l, asB_b, asX_x, asE_nil, ↓y1, y2, y3, y4, y5, y6, ↓reduceIte, y7, y8, y9, ya, yb, yc, yd, ye, yf, yg, yh, yi, yj, yk, optK_some, altK_0, altK_1, c1, c2, c3, c4, hx, w2]
  · have hx := get_some (l := s) (i := k) (by omega)
    have hq := ib_not.1 hp
    have c1 : (k : Int) < 4 := by omega
    have c2 : (0 : Int) ≤ k := by omega
    refine ⟨[.l s], ?_, rfl⟩
    generalize s.getD k 0 = v at *
    by_cases c3 : v < 0
    · simp -implicitDefEqProofs only [f28_0, f28_0_0, asI_i, asN_n, asL_l, asB_b, asX_x, asE_nil, ↓y1, y2, y3, y4, y5, y6, ↓reduceIte, y7, y8, y9, ya, yb, yc, yd, ye, yf, yg, yh, yi, yj, yk, optK_some, altK_0, altK_1, c1, c2, c3, hx]
    · have c4 : 3 < v := by omega
      simp -implicitDefEqProofs only [f28_0, f28_0_0, asI_i, asN_n, asL_l, asB_b, asX_x, asE_nil, ↓y1, y2, y3, y4, y5, y6, ↓reduceIte, y7, y8, y9, ya, yb, yc, yd, ye, yf, yg, yh, yi, yj, yk, optK_some, altK_0, altK_1, c1, c2, c3, c4, hx]
  · have c1 : ¬ ((4 : Nat) : Int) < 4 := by omega
    simp -implicitDefEqProofs only [f28_0, f28_0_0, asI_i, asN_n, asL_l, asB_b, asX_x, asE_nil, ↓y1, y2, y3, y4, y5, y6, ↓reduceIte, y7, y8, y9, ya, yb, yc, yd, ye, yf, yg, yh, yi, yj, yk, optK_some, altK_0, altK_1, c1]
theorem scale_ok (s : List Int) (hs : s.length = 4) : g21 (0, [.l s]) = some (0, [.b (allN 4 fun k => ib 0 23 (s.getD k 0))]) := by
  have main := loop_chk (f := f21_0) (fun k => [.l s, .i (k : Int), .l s]) 4 (fun k => ib 0 23 (s.getD k 0)) (fun r => r = [.l s]) (j1 := 0) (j2 := 1) (r1 := [.l s]) (fun k hk hp => ?_) (fun k hk hp => ?_) ?_ (by omega)
  · have ht := take4 hs
    have h4 : (4 : Nat) ≤ s.length := by omega
    rcases main with ⟨c, h⟩ | ⟨c, r, h, rfl⟩
    · have hL : L21_0 (0, [.l s, .i 0, .l s]) = some (0, [.l s]) := h
      rw [c]
      simp -implicitDefEqProofs only [g21, g21_0, asI_i, asN_n, asL_l, asB_b, asX_x, asE_nil, ↓y1, y2, y3, y4, y5, y6, ↓reduceIte, y7, y8, y9, ya, yb, yc, yd, ye, yf, yg, yh, yi, yj, yk, optK_some, altK_0, altK_1, h4, ht, hL]
    · have hL : L21_0 (0, [.l s, .i 0, .l s]) = some (1, [.l s]) := h
      rw [c]
      simp -implicitDefEqProofs only [g21, g21_0, asI_i, asN_n, asL_l, asB_b, asX_x, asE_nil, ↓y1, y2, y3, y4, y5, y6, ↓reduceIte, y7, y8, y9, ya, yb, yc, yd, ye, yf, yg, yh, yi, yj, yk, optK_some, altK_0, altK_1, h4, ht, hL]
  · have hx := get_some (l := s) (i := k) (by omega)
    have hq := ib_iff.1 hp
    have w2 : IntKind.i64.wrap ((k : Int) + 1) = ((k + 1 : Nat) : Int) := wrap_nat (n := k + 1) (by omega)
    have c1 : (k : Int) < 4 := by omega
    have c2 : (0 : Int) ≤ k := by omega
    generalize s.getD k 0 = v at *
    have c3 : ¬ v < 0 := by omega
    have c4 : ¬ 23 < v := by omega
    simp -implicitDefEqProofs only [f21_0, f21_0_0, asI_i, asN_n, asL_l, asB_b, asX_x, asE_nil, ↓y1, y2, y3, y4, y5, y6, ↓reduceIte, y7, y8, y9, ya, yb, yc, yd, ye, yf, yg, yh, yi, yj, yk, optK_some, altK_0, altK_1, c1, c2, c3, c4, hx, w2]
  · have hx := get_some (l := s) (i := k) (by omega)
    have hq := ib_not.1 hp
    have c1 : (k : Int) < 4 := by omega
    have c2 : (0 : Int) ≤ k := by omega
    refine ⟨[.l s], ?_, rfl⟩
    generalize s.getD k 0 = v at *
    by_cases c3 : v < 0
    · simp -implicitDefEqProofs only [f21_0, f21_0_0, asI_i, asN_n, asL_l, asB_b, asX_x, asE_nil, ↓y1, y2, y3, y4, y5, y6, ↓reduceIte, y7, y8, y9, ya, yb, yc, yd, ye, yf, yg, yh, yi, yj, yk, optK_some, altK_0, altK_1, c1, c2, c3, hx]
    · have c4 : 23 < v := by omega
      simp -implicitDefEqProofs only [f21_0, f21_0_0, asI_i, asN_n, asL_l, asB_b, asX_x, asE_nil, ↓y1, y2, y3, y4, y5, y6, ↓reduceIte, y7, y8, y9, ya, yb, yc, yd, ye, yf, yg, yh, yi, yj, yk, optK_some, altK_0, altK_1, c1, c2, c3, c4, hx]
  · have c1 : ¬ ((4 : Nat) : Int) < 4 := by omega
    simp -implicitDefEqProofs only [f21_0, f21_0_0, asI_i, asN_n, asL_l, asB_b, asX_x, asE_nil, ↓y1, y2, y3, y4, y5, y6, ↓reduceIte, y7, y8, y9, ya, yb, yc, yd, ye, yf, yg, yh, yi, yj, yk, optK_some, altK_0, altK_1, c1]
/-! ### Tones -/
def tp (h : List Int) (k : Nat) : Bool := (ib 0 15 (h.getD (k * 2) 0) && fitP (h.getD (k * 2 + 1) 0) 24) && (decide (k = 0) || decide (h.getD ((k - 1) * 2) 0 < h.getD (k * 2) 0))
theorem tp_iff {h : List Int} {k : Nat} : tp h k = true ↔ (0 ≤ h.getD (k * 2) 0 ∧ h.getD (k * 2) 0 ≤ 15) ∧ fitP (h.getD (k * 2 + 1) 0) 24 = true ∧ (k = 0 ∨ h.getD ((k - 1) * 2) 0 < h.getD (k * 2) 0) := by
  simp only [tp, Bool.and_eq_true, Bool.or_eq_true, decide_eq_true_eq, ib_iff, and_assoc]
theorem d2 : List.drop 2 ([0, 0] : List Int) = [] := rfl
theorem Fits24 (V : Int) : g20 (0, [.i V, .i 24]) = some (0, [.b (fitP V 24)]) := Fits_ok V 24 (by omega)
def tB (n : Nat) (h : List Int) : Bool := allN n (tp h) && decide (n ≤ 2)
theorem tones_ok (n : Nat) (h : List Int) (hl : n * 2 ≤ h.length) (hn : n ≤ 5) : g29 (0, [.n n, .l h]) = some (0, [.b (tB n h)]) := by
  have main := loop_chk (f := f29_0) (fun k => [.n n, .l h, .n n, .l h, .i (n : Int), .i (k : Int)]) n (tp h) (fun r => ∃ q : List Int, r = [.b false, .l q]) (j1 := 0) (j2 := 1) (r1 := [.n n, .l h]) (fun k hk hp => ?_) (fun k hk hp => ?_) ?_ (by omega)
  · unfold tB
    rcases main with ⟨c, h'⟩ | ⟨c, r, h', q, rfl⟩
    · have hL : L29_0 (0, [.n n, .l h, .n n, .l h, .i (n : Int), .i 0]) = some (0, [.n n, .l h]) := h'
      have e : decide ((n : Int) ≤ 2) = decide (n ≤ 2) := by rw [decide_eq_decide]; omega
      rw [c]
      simp -implicitDefEqProofs only [g29, g29_0, asI_i, asN_n, asL_l, asB_b, asE_nil, altK_0, altK_1, hL, e, Bool.true_and]
    · have hL : L29_0 (0, [.n n, .l h, .n n, .l h, .i (n : Int), .i 0]) = some (1, [.b false, .l q]) := h'
      rw [c]
      simp -implicitDefEqProofs only [g29, g29_0, asI_i, asN_n, asL_l, asB_b, asE_nil, altK_0, altK_1, hL, Bool.false_and]
  · have hq := tp_iff.1 hp
    clear hp
    have c1 : (k : Int) < (n : Int) := by omega
    have c2 : (0 : Int) ≤ k := by omega
    have c3 : k * 2 + 2 ≤ h.length := by omega
    have cl := cT_len (h := h) (k := k) (by omega)
    have t0 := cT_0 (h := h) (k := k) (by omega)
    have t1 := cT_1 (h := h) (k := k) (by omega)
    have hf := Fits24 (h.getD (k * 2 + 1) 0)
    have w2 : IntKind.i64.wrap ((k : Int) + 1) = ((k + 1 : Nat) : Int) := wrap_nat (n := k + 1) (by omega)
    have hx : 0 < k → h[(k - 1) * 2]? = some (h.getD ((k - 1) * 2) 0) := fun _ => get_some (by omega)
    have w1 : 0 < k → IntKind.i64.wrap ((k : Int) - 1) = ((k - 1 : Nat) : Int) := fun hk => by rw [wrap64 (by omega) (by omega)]; omega
    have c5 : 0 < k → (((k - 1 : Nat) : Int) < (n : Int)) := fun _ => by omega
    have c6 : (0 : Int) ≤ ((k - 1 : Nat) : Int) := by omega
    generalize h.getD (k * 2) 0 = v at *
    generalize h.getD (k * 2 + 1) 0 = u at *
    obtain ⟨⟨q1, q2⟩, q3, q4⟩ := hq
    rw [q3] at hf
    have c7 : ¬ v < 0 := by omega
    have c8 : ¬ 16 ≤ v := by omega
    by_cases z : 0 < k
    · have hx := hx z
      have w1 := w1 z
      have c5 := c5 z
      have z' : (0 : Int) < (k : Int) := by omega
      have c9 : ¬ v ≤ h.getD ((k - 1) * 2) 0 := by omega
      generalize h.getD ((k - 1) * 2) 0 = u' at *
      simp -implicitDefEqProofs only [f29_0, f29_0_0, asI_i, asN_n, asL_l, asB_b, asX_x, asE_nil, ↓y1, y2, y3, y4, y5, y6, ↓reduceIte, y7, y8, y9, ya, yb, yc, yd, ye, yf, yg, yh, yi, yj, yk, optK_some, altK_0, altK_1, c1, c2, c3, cl, t0, t1, d2, c7, c8, z', w1, c5, c6, hx, c9, hf, w2]
    · have z' : ¬ (0 : Int) < (k : Int) := by omega
      simp -implicitDefEqProofs only [f29_0, f29_0_0, asI_i, asN_n, asL_l, asB_b, asX_x, asE_nil, ↓y1, y2, y3, y4, y5, y6, ↓reduceIte, y7, y8, y9, ya, yb, yc, yd, ye, yf, yg, yh, yi, yj, yk, optK_some, altK_0, altK_1, c1, c2, c3, cl, t0, t1, d2, c7, c8, z', hf, w2]
  · have hq : ¬ _ := fun e => by rw [tp_iff.2 e] at hp; cases hp
    clear hp
    have c1 : (k : Int) < (n : Int) := by omega
    have c2 : (0 : Int) ≤ k := by omega
    have c3 : k * 2 + 2 ≤ h.length := by omega
    have cl := cT_len (h := h) (k := k) (by omega)
    have t0 := cT_0 (h := h) (k := k) (by omega)
    have t1 := cT_1 (h := h) (k := k) (by omega)
    have hf := Fits24 (h.getD (k * 2 + 1) 0)
    have w2 : IntKind.i64.wrap ((k : Int) + 1) = ((k + 1 : Nat) : Int) := wrap_nat (n := k + 1) (by omega)
    have hx : 0 < k → h[(k - 1) * 2]? = some (h.getD ((k - 1) * 2) 0) := fun _ => get_some (by omega)
    have w1 : 0 < k → IntKind.i64.wrap ((k : Int) - 1) = ((k - 1 : Nat) : Int) := fun hk => by rw [wrap64 (by omega) (by omega)]; omega
    have c5 : 0 < k → (((k - 1 : Nat) : Int) < (n : Int)) := fun _ => by omega
    have c6 : (0 : Int) ≤ ((k - 1 : Nat) : Int) := by omega
    refine ⟨[.b false, .l (List.take 2 (List.drop (k * 2) h))], ?_, _, rfl⟩
    generalize h.getD (k * 2) 0 = v at *
    generalize h.getD (k * 2 + 1) 0 = u at *
    by_cases c7 : v < 0
    · simp -implicitDefEqProofs only [f29_0, f29_0_0, asI_i, asN_n, asL_l, asB_b, asX_x, asE_nil, ↓y1, y2, y3, y4, y5, y6, ↓reduceIte, y7, y8, y9, ya, yb, yc, yd, ye, yf, yg, yh, yi, yj, yk, optK_some, altK_0, altK_1, c1, c2, c3, cl, t0, t1, d2, c7]
    by_cases c8 : 16 ≤ v
    · simp -implicitDefEqProofs only [f29_0, f29_0_0, asI_i, asN_n, asL_l, asB_b, asX_x, asE_nil, ↓y1, y2, y3, y4, y5, y6, ↓reduceIte, y7, y8, y9, ya, yb, yc, yd, ye, yf, yg, yh, yi, yj, yk, optK_some, altK_0, altK_1, c1, c2, c3, cl, t0, t1, d2, c7, c8]
    by_cases z : 0 < k
    · have hx := hx z
      have w1 := w1 z
      have c5 := c5 z
      have z' : (0 : Int) < (k : Int) := by omega
      generalize h.getD ((k - 1) * 2) 0 = u' at *
      by_cases c9 : v ≤ u'
      · simp -implicitDefEqProofs only [f29_0, f29_0_0, asI_i, asN_n, asL_l, asB_b, asX_x, asE_nil, ↓y1, y2, y3, y4, y5, y6, ↓reduceIte, y7, y8, y9, ya, yb, yc, yd, ye, yf, yg, yh, yi, yj, yk, optK_some, altK_0, altK_1, c1, c2, c3, cl, t0, t1, d2, c7, c8, z', w1, c5, c6, hx, c9]
      · have e : fitP u 24 = false := by
          cases e : fitP u 24 with
          | false => rfl
          | true => exact absurd ⟨⟨by omega, by omega⟩, e, .inr (by omega)⟩ hq
        rw [e] at hf
        simp -implicitDefEqProofs only [f29_0, f29_0_0, asI_i, asN_n, asL_l, asB_b, asX_x, asE_nil, ↓y1, y2, y3, y4, y5, y6, ↓reduceIte, y7, y8, y9, ya, yb, yc, yd, ye, yf, yg, yh, yi, yj, yk, optK_some, altK_0, altK_1, c1, c2, c3, cl, t0, t1, d2, c7, c8, z', w1, c5, c6, hx, c9, hf]
    · have z' : ¬ (0 : Int) < (k : Int) := by omega
      have e : fitP u 24 = false := by
        cases e : fitP u 24 with
        | false => rfl
        | true => exact absurd ⟨⟨by omega, by omega⟩, e, .inl (by omega)⟩ hq
      rw [e] at hf
      simp -implicitDefEqProofs only [f29_0, f29_0_0, asI_i, asN_n, asL_l, asB_b, asX_x, asE_nil, ↓y1, y2, y3, y4, y5, y6, ↓reduceIte, y7, y8, y9, ya, yb, yc, yd, ye, yf, yg, yh, yi, yj, yk, optK_some, altK_0, altK_1, c1, c2, c3, cl, t0, t1, d2, c7, c8, z', hf]
  · have c1 : ¬ (n : Int) < (n : Int) := Int.lt_irrefl _
    simp -implicitDefEqProofs only [f29_0, f29_0_0, asI_i, asN_n, asL_l, asB_b, asX_x, asE_nil, ↓y1, y2, y3, y4, y5, y6, ↓reduceIte, y7, y8, y9, ya, yb, yc, yd, ye, yf, yg, yh, yi, yj, yk, optK_some, altK_0, altK_1, c1]
/-! ### Right -/
def wqB (c : List NC) (i : Nat) : Bool := ib 0 24 (Ac c (9 + i)) && allN 4 fun k => fitP (Ac c (i * 4 + 13 + k)) (Ac c (9 + i)).toNat
def rB (c : List NC) : Bool := ((allN 4 fun k => ib 0 3 (Ac c k)) && (tB (Nc c) (Tc c) && (allN 4 fun k => ib 0 23 (Ac c (5 + k))))) && allN 4 (wqB c)
theorem allN_congr {p q : Nat → Bool} : ∀ {n : Nat}, (∀ k, k < n → p k = q k) → allN n p = allN n q
  | 0, _ => rfl
  | n + 1, h => by simp only [allN]; rw [allN_congr (n := n) fun k hk => h k (by omega), h n (by omega)]
theorem inner_ok (c : List NC) (hc : c.length = 29) (ws : List Int) (w : Int) (i : Nat) (hi : i < 4) (h0 : 0 ≤ w) (h24 : w ≤ 24) :
    ((allN 4 fun k => fitP (Ac c (i * 4 + 13 + k)) w.toNat) = true ∧ L15_0 (0, [.i w, .l ws, .i (i : Int), .n (i * 4 + 13), .n 4, .i 4, .i 0, .x c]) = some (0, [.l ws, .i (i : Int), .x c])) ∨
    ((allN 4 fun k => fitP (Ac c (i * 4 + 13 + k)) w.toNat) = false ∧ L15_0 (0, [.i w, .l ws, .i (i : Int), .n (i * 4 + 13), .n 4, .i 4, .i 0, .x c]) = some (1, [.x c])) := by
  have key : ∀ k : Nat, k < 4 → f15_0 (0, [.i w, .l ws, .i (i : Int), .n (i * 4 + 13), .n 4, .i 4, .i (k : Int), .x c]) = if fitP (Ac c (i * 4 + 13 + k)) w.toNat = true then some (0, [.i w, .l ws, .i (i : Int), .n (i * 4 + 13), .n 4, .i 4, .i ((k + 1 : Nat) : Int), .x c]) else some (1 + 1, [.x c]) := fun k hk => by
    have hx := getc hc (j := i * 4 + 13 + k) (by omega)
    have e : k + (i * 4 + 13) = i * 4 + 13 + k := by omega
    have hf := Fits_ok (Ac c (i * 4 + 13 + k)) w.toNat (by omega)
    rw [show ((w.toNat : Nat) : Int) = w by omega] at hf
    have w2 : IntKind.i64.wrap ((k : Int) + 1) = ((k + 1 : Nat) : Int) := wrap_nat (n := k + 1) (by omega)
    have c1 : (k : Int) < 4 := by omega
    have c2 : (0 : Int) ≤ k := by omega
    have c3 : (k : Int) < ((4 : Nat) : Int) := by omega
    have hm := Nat.mod_eq_of_lt (show i * 4 + 13 + k < 29 by omega)
    have c4 : ((i * 4 + 13 + k) % 29 < 4) = False := eq_false (by rw [hm]; omega)
    have c5 : ((i * 4 + 13 + k) % 29 < 5) = False := eq_false (by rw [hm]; omega)
    unfold Ac at *
    generalize c.getD (i * 4 + 13 + k) ⟨0, []⟩ = v at *
    cases hb : fitP v.i w.toNat <;> rw [hb] at hf <;> simp -implicitDefEqProofs only [f15_0, f15_0_0, asI_i, asN_n, asL_l, asB_b, asX_x, asE_nil, ↓y1, y2, y3, y4, y5, y6, ↓reduceIte, y7, y8, y9, ya, yb, yc, yd, ye, yf, yg, yh, yi, yj, yk, optK_some, altK_0, altK_1, c1, c2, c3, c4, c5, e, hx, hf, w2, Bool.false_eq_true]
  have main := loop_chk (f := f15_0) (fun k => [.i w, .l ws, .i (i : Int), .n (i * 4 + 13), .n 4, .i 4, .i (k : Int), .x c]) 4 (fun k => fitP (Ac c (i * 4 + 13 + k)) w.toNat) (fun r => r = [.x c]) (j1 := 0) (j2 := 1) (r1 := [.l ws, .i (i : Int), .x c]) (fun k hk hp => by rw [key k hk, if_pos hp]) (fun k hk hp => ⟨_, by rw [key k hk, hp]; exact if_neg Bool.false_ne_true, rfl⟩) ?_ (by omega)
  · rcases main with ⟨c1, h⟩ | ⟨c1, r, h, rfl⟩
    · exact .inl ⟨c1, h⟩
    · exact .inr ⟨c1, h⟩
  · have c1 : ¬ ((4 : Nat) : Int) < 4 := by omega
    simp -implicitDefEqProofs only [f15_0, f15_0_0, asI_i, asN_n, asL_l, asB_b, asX_x, asE_nil, ↓y1, y2, y3, y4, y5, y6, ↓reduceIte, y7, y8, y9, ya, yb, yc, yd, ye, yf, yg, yh, yi, yj, yk, optK_some, altK_0, altK_1, c1]
theorem wq_ok (c : List NC) (hc : c.length = 29) : L15_1 (0, [.l (sub4 c 9), .i 0, .x c]) = some (if allN 4 (wqB c) = true then 0 else 1, [.x c]) := by
  have key : ∀ i : Nat, i < 4 → f15_1 (0, [.l (sub4 c 9), .i (i : Int), .x c]) = if wqB c i = true then some (0, [.l (sub4 c 9), .i ((i + 1 : Nat) : Int), .x c]) else some (1 + 1, [.x c]) := fun i hi => by
    have hl := sub4_len hc (o := 9) (by omega)
    have hx := get_some (l := sub4 c 9) (i := i) (by omega)
    rw [sub4_get hc (by omega) hi] at hx
    have w2 : IntKind.i64.wrap ((i : Int) + 1) = ((i + 1 : Nat) : Int) := wrap_nat (n := i + 1) (by omega)
    have w3 : IntKind.i64.wrap (((i + 1 : Nat) : Int) * 4) = (((i + 1) * 4 : Nat) : Int) := by rw [wrap64 (by omega) (by omega)]; omega
    have w4 : IntKind.i64.wrap ((i : Int) * 4) = ((i * 4 : Nat) : Int) := by rw [wrap64 (by omega) (by omega)]; omega
    have c1 : (i : Int) < 4 := by omega
    have c2 : (0 : Int) ≤ i := by omega
    have c3 : (0 : Int) ≤ (((i + 1) * 4 : Nat) : Int) := by omega
    have c4 : (((i + 1) * 4 : Nat) : Int) ≤ 16 := by omega
    have c5 : (0 : Int) ≤ ((i * 4 : Nat) : Int) := by omega
    have c6 : ((i * 4 : Nat) : Int) ≤ (((i + 1) * 4 : Nat) : Int) := by omega
    have c7 : (29 : Nat) ≤ c.length := by omega
    have e4 : (i + 1) * 4 - i * 4 = 4 := by omega
    have e5 : ((4 : Nat) : Int) = 4 := rfl
    unfold wqB
    generalize hwv : Ac c (9 + i) = w at *
    by_cases d1 : w < 0
    · rw [show ib 0 24 w = false from ib_not.2 (.inl d1)]
      simp -implicitDefEqProofs only [f15_1, f15_1_0, asI_i, asN_n, asL_l, asB_b, asX_x, asE_nil, ↓y1, y2, y3, y4, y5, y6, ↓reduceIte, y7, y8, y9, ya, yb, yc, yd, ye, yf, yg, yh, yi, yj, yk, optK_some, altK_0, altK_1, c1, c2, hx, d1, Bool.false_and, Bool.false_eq_true]
    by_cases d2 : 24 < w
    · rw [show ib 0 24 w = false from ib_not.2 (.inr d2)]
      simp -implicitDefEqProofs only [f15_1, f15_1_0, asI_i, asN_n, asL_l, asB_b, asX_x, asE_nil, ↓y1, y2, y3, y4, y5, y6, ↓reduceIte, y7, y8, y9, ya, yb, yc, yd, ye, yf, yg, yh, yi, yj, yk, optK_some, altK_0, altK_1, c1, c2, hx, d1, d2, Bool.false_and, Bool.false_eq_true]
    rw [show ib 0 24 w = true from ib_iff.2 ⟨by omega, by omega⟩]
    rcases inner_ok c hc (sub4 c 9) w i hi (by omega) (by omega) with ⟨q, h⟩ | ⟨q, h⟩
    · rw [q]
      simp -implicitDefEqProofs only [f15_1, f15_1_0, asI_i, asN_n, asL_l, asB_b, asX_x, asE_nil, ↓y1, y2, y3, y4, y5, y6, ↓reduceIte, y7, y8, y9, ya, yb, yc, yd, ye, yf, yg, yh, yi, yj, yk, optK_some, altK_0, altK_1, c1, c2, hx, d1, d2, w2, w3, w4, c3, c4, c5, c6, c7, e4, e5, h, Bool.and_self]
    · rw [q]
      simp -implicitDefEqProofs only [f15_1, f15_1_0, asI_i, asN_n, asL_l, asB_b, asX_x, asE_nil, ↓y1, y2, y3, y4, y5, y6, ↓reduceIte, y7, y8, y9, ya, yb, yc, yd, ye, yf, yg, yh, yi, yj, yk, optK_some, altK_0, altK_1, c1, c2, hx, d1, d2, w2, w3, w4, c3, c4, c5, c6, c7, e4, e5, h, Bool.and_false, Bool.false_eq_true]
  have main := loop_chk (f := f15_1) (fun k => [.l (sub4 c 9), .i (k : Int), .x c]) 4 (wqB c) (fun r => r = [.x c]) (j1 := 0) (j2 := 1) (r1 := [.x c]) (fun k hk hp => by rw [key k hk, if_pos hp]) (fun k hk hp => ⟨_, by rw [key k hk, hp]; exact if_neg Bool.false_ne_true, rfl⟩) ?_ (by omega)
  · rcases main with ⟨c1, h⟩ | ⟨c1, r, h, rfl⟩
    · rw [c1]; exact h
    · rw [c1]; exact h
  · have c1 : ¬ ((4 : Nat) : Int) < 4 := by omega
    simp -implicitDefEqProofs only [f15_1, f15_1_0, asI_i, asN_n, asL_l, asB_b, asX_x, asE_nil, ↓y1, y2, y3, y4, y5, y6, ↓reduceIte, y7, y8, y9, ya, yb, yc, yd, ye, yf, yg, yh, yi, yj, yk, optK_some, altK_0, altK_1, c1]
theorem drop0 (c : List NC) : List.drop 0 c = c := rfl
theorem right_ok (c : List NC) (hc : WF c) : g15 (0, [.x c]) = some (0, [.b (rB c)]) := by
  have h1 := gain_ok (sub4 c 0) (sub4_len hc.len (by omega))
  have h2 := tones_ok (Nc c) (Tc c) (by rw [hc.ton]; exact Nat.le_refl _) hc.few
  have h3 := scale_ok (sub4 c 5) (sub4_len hc.len (by omega))
  have h4 := wq_ok c hc.len
  have e1 : (allN 4 fun k => ib 0 3 ((sub4 c 0).getD k 0)) = allN 4 fun k => ib 0 3 (Ac c k) := allN_congr fun k hk => by rw [sub4_get hc.len (by omega) hk, Nat.zero_add]
  have e3 : (allN 4 fun k => ib 0 23 ((sub4 c 5).getD k 0)) = allN 4 fun k => ib 0 23 (Ac c (5 + k)) := allN_congr fun k hk => by rw [sub4_get hc.len (by omega) hk]
  rw [e1] at h1
  rw [e3] at h3
  have hx := getc hc.len (j := 4) (by omega)
  have l4 : (4 : Nat) ≤ c.length := by rw [hc.len]; omega
  have l9 : (9 : Nat) ≤ c.length := by rw [hc.len]; omega
  have l13 : (13 : Nat) ≤ c.length := by rw [hc.len]; omega
  have hN : Nc c * 2 ≤ (Tc c).length := by rw [hc.ton]; exact Nat.le_refl _
  have ht : List.take (Nc c * 2) (Tc c) = Tc c := List.take_of_length_le (by rw [hc.ton]; exact Nat.le_refl _)
  unfold rB
  have t4 : (c.getD 4 ⟨0, []⟩).l = Tc c := rfl
  have t5 : List.length (Tc c) / 2 = Nc c := rfl
  have t6 : List.map NC.i (List.take 4 c) = sub4 c 0 := rfl
  have t7 : List.map NC.i (List.take 4 (List.drop 5 c)) = sub4 c 5 := rfl
  have t8 : List.map NC.i (List.take 4 (List.drop 9 c)) = sub4 c 9 := rfl
  generalize (allN 4 fun k => ib 0 3 (Ac c k)) = b1 at *
  generalize (allN 4 fun k => ib 0 23 (Ac c (5 + k))) = b3 at *
  generalize tB (Nc c) (Tc c) = b2 at *
  generalize allN 4 (wqB c) = b4 at *
  generalize c.getD 4 ⟨0, []⟩ = v at *
  generalize Tc c = T at *
  generalize Nc c = N at *
  cases b1 <;> cases b2 <;> cases b3 <;> cases b4 <;> simp -implicitDefEqProofs only [g15, g15_0, asI_i, asN_n, asL_l, asB_b, asX_x, asE_nil, ↓y1, y2, y3, y4, y5, y6, ↓reduceIte, y7, y8, y9, ya, yb, yc, yd, ye, yf, yg, yh, yi, yj, yk, optK_some, altK_0, altK_1, l4, l9, l13, hx, t4, t5, t6, t7, t8, hN, ht, h1, h2, h3, h4, Bool.false_eq_true, Bool.and_true, Bool.and_false, Bool.false_and, Bool.true_and]
end Go.Proofs.Ytdngjlgbebmbhaa
