/-
  What the law of a frame's accounts shares: accounts, sums, loops. Conditions: none.
-/
import Derived.Test.YtmghafpbaigkaaaSxW
import Derived.KernelRfl
namespace Go.Proofs.Ytmghafpbaigkaaa
open Go Go.Sx
set_option maxRecDepth 100000
set_option linter.unusedVariables false
attribute [local simp] asI_i asB_b asL_l asN_n asS_s asE_nil altK_none altK_0 altK_1 altK_2 altK_3 optK_some optK_none Bool.cond_decide Bool.cond_not Int.toNat_natCast
set_option linter.unusedSimpArgs false

theorem cT_len {h : List Int} {k : Nat} (hk : k * 2 + 2 ≤ h.length) : List.length (List.take 2 (List.drop (k * 2) h)) = 2 := by rw [List.length_take, List.length_drop]; omega
theorem cT_0 {h : List Int} {k : Nat} (hk : k * 2 + 2 ≤ h.length) : (List.take 2 (List.drop (k * 2) h))[(0 : Nat)]? = some (h.getD (k * 2) 0) := by
  rw [List.getElem?_take_of_lt (by omega), List.getElem?_drop]
  exact get_some (by omega)
theorem cT_1 {h : List Int} {k : Nat} (hk : k * 2 + 2 ≤ h.length) : (List.take 2 (List.drop (k * 2) h))[(1 : Nat)]? = some (h.getD (k * 2 + 1) 0) := by
  rw [List.getElem?_take_of_lt (by omega), List.getElem?_drop]
  exact get_some (by omega)
theorem drop2 : List.drop (0 + 2) ([0, 0] : List Int) = [] := rfl
theorem drop4 : List.drop (0 + 4) ([0, 0, 0, 0] : List Int) = [] := rfl
theorem c4_len {h : List Int} {k : Nat} (hk : k * 4 + 4 ≤ h.length) : List.length (List.take 4 (List.drop (k * 4) h)) = 4 := by rw [List.length_take, List.length_drop]; omega
theorem c4_get {h : List Int} {k : Nat} (hk : k * 4 + 4 ≤ h.length) (c : Nat) (hc : c < 4) : (List.take 4 (List.drop (k * 4) h))[c]? = some (h.getD (k * 4 + c) 0) := by
  rw [List.getElem?_take_of_lt (by omega), List.getElem?_drop]
  exact get_some (by omega)
/-- A loop through shapes 0, 1, .. that may end early. -/
theorem loop_chain {m : Nat} {f : Nat × List Leaf → Option (Nat × List Leaf)} (S : Nat → Nat × List Leaf) (K : Nat) {ja jb : Nat} {ra rb : List Leaf} (hS : ∀ k, k ≤ K → (S k).1 < m)
    (hs : ∀ k, k < K → f (S k) = some (S (k + 1)) ∨ f (S k) = some (m + ja, ra)) (he : f (S K) = some (m + jb, rb)) (hK : K < 1000000) : loopL m f (S 0) = some (ja, ra) ∨ loopL m f (S 0) = some (jb, rb) := by
  by_cases h : ∀ k, k < K → f (S k) = some (S (k + 1))
  · right
    exact loopL_run S K (fun k hk => ⟨h k hk, hS (k + 1) (by omega)⟩) he (by omega)
  · left
    obtain ⟨k, hk⟩ := Classical.not_forall.1 h
    rw [Classical.not_imp] at hk
    obtain ⟨hk, hp⟩ := hk
    obtain ⟨j, hj, hpj, hmin⟩ : ∃ j, j < K ∧ ¬ f (S j) = some (S (j + 1)) ∧ ∀ i, i < j → f (S i) = some (S (i + 1)) := by
      clear hs he h
      induction k using Nat.strongRecOn with
      | _ k ih =>
        by_cases q : ∀ i, i < k → f (S i) = some (S (i + 1))
        · exact ⟨k, hk, hp, q⟩
        · obtain ⟨i, hi⟩ := Classical.not_forall.1 q
          rw [Classical.not_imp] at hi
          exact ih i hi.1 (by omega) hi.2
    exact loopL_run S j (fun i hi => ⟨hmin i hi, hS (i + 1) (by omega)⟩) ((hs j hj).resolve_left hpj) (by omega)
/-- The first round at which such a loop ends, or its end. -/
theorem loop_first {m : Nat} {f : Nat × List Leaf → Option (Nat × List Leaf)} (S : Nat → Nat × List Leaf) (K : Nat) (ja : Nat → Nat) (ra : Nat → List Leaf) (P : Nat → Prop) {jb : Nat} {rb : List Leaf} (hS : ∀ k, k ≤ K → (S k).1 < m)
    (hs : ∀ k, k < K → (f (S k) = some (S (k + 1)) ∧ P k) ∨ f (S k) = some (m + ja k, ra k)) (he : f (S K) = some (m + jb, rb)) (hK : K < 1000000) :
    (loopL m f (S 0) = some (jb, rb) ∧ ∀ k, k < K → P k) ∨ ∃ k, k < K ∧ loopL m f (S 0) = some (ja k, ra k) := by
  by_cases h : ∀ k, k < K → f (S k) = some (S (k + 1)) ∧ P k
  · left
    exact ⟨loopL_run S K (fun k hk => ⟨(h k hk).1, hS (k + 1) (by omega)⟩) he (by omega), fun k hk => (h k hk).2⟩
  · right
    obtain ⟨k, hk⟩ := Classical.not_forall.1 h
    rw [Classical.not_imp] at hk
    obtain ⟨hk, hp⟩ := hk
    obtain ⟨j, hj, hpj, hmin⟩ : ∃ j, j < K ∧ ¬ (f (S j) = some (S (j + 1)) ∧ P j) ∧ ∀ i, i < j → f (S i) = some (S (i + 1)) ∧ P i := by
      clear hs he h
      induction k using Nat.strongRecOn with
      | _ k ih =>
        by_cases q : ∀ i, i < k → f (S i) = some (S (i + 1)) ∧ P i
        · exact ⟨k, hk, hp, q⟩
        · obtain ⟨i, hi⟩ := Classical.not_forall.1 q
          rw [Classical.not_imp] at hi
          exact ih i hi.1 (by omega) hi.2
    exact ⟨j, hj, loopL_run S j (fun i hi => ⟨(hmin i hi).1, hS (i + 1) (by omega)⟩) ((hs j hj).resolve_left hpj) (by omega)⟩

/-- The sum of the first so many accounts' fields c. -/
def sK (g : List Int) (c : Nat) : Nat → Int
  | 0 => 0
  | k + 1 => IntKind.i64.wrap (sK g c k + g.getD (k * 4 + c) 0)
def cK (s : List Int) : Nat → Int
  | 0 => 0
  | k + 1 => IntKind.i64.wrap (cK s k + IntKind.i64.wrap (4 * s.getD k 0))
theorem wrap_def (x : Int) : IntKind.i64.wrap x = if 9223372036854775808 ≤ x % 18446744073709551616 then x % 18446744073709551616 - 18446744073709551616 else x % 18446744073709551616 := by
  show (if (true && decide (x % 18446744073709551616 ≥ 9223372036854775808)) = true then x % 18446744073709551616 - 18446744073709551616 else x % 18446744073709551616) = _
  by_cases h : 9223372036854775808 ≤ x % 18446744073709551616
  · rw [if_pos h, if_pos (by simpa using h)]
  · rw [if_neg h, if_neg (by simpa using h)]
theorem w_mod (x : Int) : ∃ q, IntKind.i64.wrap x = x + 18446744073709551616 * q := by
  rw [wrap_def]
  split
  · exact ⟨-(x / 18446744073709551616) - 1, by omega⟩
  · exact ⟨-(x / 18446744073709551616), by omega⟩
theorem w_eq {x y : Int} (q : Int) (h : x = y + 18446744073709551616 * q) : IntKind.i64.wrap x = IntKind.i64.wrap y := by
  have e : x % 18446744073709551616 = y % 18446744073709551616 := by omega
  rw [wrap_def, wrap_def, e]
theorem cost_eq (a b c d : Int) : IntKind.i64.wrap (IntKind.i64.wrap (IntKind.i64.wrap (IntKind.i64.wrap (0 + IntKind.i64.wrap (4 * a)) + IntKind.i64.wrap (4 * b)) + IntKind.i64.wrap (4 * c)) + IntKind.i64.wrap (4 * d)) = IntKind.i64.wrap (4 * IntKind.i64.wrap (IntKind.i64.wrap (IntKind.i64.wrap (a + b) + c) + d)) := by
  obtain ⟨p1, h1⟩ := w_mod (4 * a)
  obtain ⟨p2, h2⟩ := w_mod (4 * b)
  obtain ⟨p3, h3⟩ := w_mod (4 * c)
  obtain ⟨p4, h4⟩ := w_mod (4 * d)
  obtain ⟨p5, h5⟩ := w_mod (0 + IntKind.i64.wrap (4 * a))
  obtain ⟨p6, h6⟩ := w_mod (IntKind.i64.wrap (0 + IntKind.i64.wrap (4 * a)) + IntKind.i64.wrap (4 * b))
  obtain ⟨p7, h7⟩ := w_mod (IntKind.i64.wrap (IntKind.i64.wrap (0 + IntKind.i64.wrap (4 * a)) + IntKind.i64.wrap (4 * b)) + IntKind.i64.wrap (4 * c))
  obtain ⟨q1, g1⟩ := w_mod (a + b)
  obtain ⟨q2, g2⟩ := w_mod (IntKind.i64.wrap (a + b) + c)
  obtain ⟨q3, g3⟩ := w_mod (IntKind.i64.wrap (IntKind.i64.wrap (a + b) + c) + d)
  refine w_eq (p1 + p2 + p3 + p4 + p5 + p6 + p7 - 4 * (q1 + q2 + q3)) ?_
  generalize IntKind.i64.wrap (4 * a) = w1 at *
  generalize IntKind.i64.wrap (4 * b) = w2 at *
  generalize IntKind.i64.wrap (4 * c) = w3 at *
  generalize IntKind.i64.wrap (4 * d) = w4 at *
  generalize IntKind.i64.wrap (0 + w1) = w5 at *
  generalize IntKind.i64.wrap (w5 + w2) = w6 at *
  generalize IntKind.i64.wrap (w6 + w3) = w7 at *
  generalize IntKind.i64.wrap (a + b) = v1 at *
  generalize IntKind.i64.wrap (v1 + c) = v2 at *
  generalize IntKind.i64.wrap (v2 + d) = v3 at *
  omega
theorem left_eq (s t c : Int) : IntKind.i64.wrap (IntKind.i64.wrap (IntKind.i64.wrap (52 + t) + c) + IntKind.i64.wrap (IntKind.i64.wrap (IntKind.i64.wrap (IntKind.i64.wrap (8 * s) - 52) - t) - c)) = IntKind.i64.wrap (8 * s) := by
  obtain ⟨p1, h1⟩ := w_mod (52 + t)
  obtain ⟨p2, h2⟩ := w_mod (IntKind.i64.wrap (52 + t) + c)
  obtain ⟨q1, g1⟩ := w_mod (8 * s)
  obtain ⟨q2, g2⟩ := w_mod (IntKind.i64.wrap (8 * s) - 52)
  obtain ⟨q3, g3⟩ := w_mod (IntKind.i64.wrap (IntKind.i64.wrap (8 * s) - 52) - t)
  obtain ⟨q4, g4⟩ := w_mod (IntKind.i64.wrap (IntKind.i64.wrap (IntKind.i64.wrap (8 * s) - 52) - t) - c)
  refine w_eq (p1 + p2 + q1 + q2 + q3 + q4) ?_
  generalize IntKind.i64.wrap (52 + t) = w1 at *
  generalize IntKind.i64.wrap (w1 + c) = w2 at *
  generalize IntKind.i64.wrap (8 * s) = w3 at *
  generalize IntKind.i64.wrap (w3 - 52) = w4 at *
  generalize IntKind.i64.wrap (w4 - t) = w5 at *
  generalize IntKind.i64.wrap (w5 - c) = w6 at *
  omega
end Go.Proofs.Ytmghafpbaigkaaa
