/-
  What the laws of a frame's spectrum share: lists of sixteen, tones, clamps. Conditions: none.
-/
import Derived.Test.YthofmhnbncopjaaSxW
import Derived.KernelRfl
namespace Go.Proofs.Ythofmhnbncopjaa
open Go Go.Sx
set_option maxRecDepth 100000
set_option linter.unusedVariables false
attribute [local simp] asI_i asB_b asL_l asN_n asS_s asE_nil altK_none altK_0 altK_1 altK_2 altK_3 optK_some optK_none Bool.cond_decide Bool.cond_not Int.toNat_natCast
set_option linter.unusedSimpArgs false

def cT (h : List Int) (k : Nat) : List Int := List.take 2 (List.drop (k * 2) h)
theorem cT_len {h : List Int} {k : Nat} (hk : k * 2 + 2 ≤ h.length) : List.length (List.take 2 (List.drop (k * 2) h)) = 2 := by rw [List.length_take, List.length_drop]; omega
theorem cT_0 {h : List Int} {k : Nat} (hk : k * 2 + 2 ≤ h.length) : (List.take 2 (List.drop (k * 2) h))[(0 : Nat)]? = some (h.getD (k * 2) 0) := by
  rw [List.getElem?_take_of_lt (by omega), List.getElem?_drop]
  exact get_some (by omega)
theorem cT_1 {h : List Int} {k : Nat} (hk : k * 2 + 2 ≤ h.length) : (List.take 2 (List.drop (k * 2) h))[(1 : Nat)]? = some (h.getD (k * 2 + 1) 0) := by
  rw [List.getElem?_take_of_lt (by omega), List.getElem?_drop]
  exact get_some (by omega)
theorem drop2 : List.drop (0 + 2) ([0, 0] : List Int) = [] := rfl
theorem drop16 : List.drop (0 + 16) ([0, 0, 0, 0, 0, 0, 0, 0, 0, 0, 0, 0, 0, 0, 0, 0] : List Int) = [] := rfl
theorem len16 (Q : List Int) : True := trivial
/-- A loop through shapes 0, 1, .. that may end early. -/
theorem loop_chain {m : Nat} {f : Nat × List Leaf → Option (Nat × List Leaf)} (S : Nat → Nat × List Leaf) (K : Nat) {ja jb : Nat} {ra rb : List Leaf} (hS : ∀ k, k ≤ K → (S k).1 < m)
    (hs : ∀ k, k < K → f (S k) = some (S (k + 1)) ∨ f (S k) = some (m + ja, ra)) (he : f (S K) = some (m + jb, rb)) (hK : K < 1000000) : loopL m f (S 0) = some (ja, ra) ∨ loopL m f (S 0) = some (jb, rb) := by
  by_cases h : ∀ k, k < K → f (S k) = some (S (k + 1))
  · right
    exact loopL_run S K (fun k hk => ⟨h k hk, hS (k + 1) (by omega)⟩) he (by omega)
  · left
    obtain ⟨k, hk⟩ := Classical.not_forall.1 h
    rw [Classical.not_imp] at hk
    obtain ⟨hk, hp⟩ := hk
    obtain ⟨j, hj, hpj, hmin⟩ : ∃ j, j < K ∧ ¬ f (S j) = some (S (j + 1)) ∧ ∀ i, i < j → f (S i) = some (S (i + 1)) := by
      clear hs he h
      induction k using Nat.strongRecOn with
      | _ k ih =>
        by_cases q : ∀ i, i < k → f (S i) = some (S (i + 1))
        · exact ⟨k, hk, hp, q⟩
        · obtain ⟨i, hi⟩ := Classical.not_forall.1 q
          rw [Classical.not_imp] at hi
          exact ih i hi.1 (by omega) hi.2
    exact loopL_run S j (fun i hi => ⟨hmin i hi, hS (i + 1) (by omega)⟩) ((hs j hj).resolve_left hpj) (by omega)
/-- The first round at which such a loop ends, or its end. -/
theorem loop_first {m : Nat} {f : Nat × List Leaf → Option (Nat × List Leaf)} (S : Nat → Nat × List Leaf) (K : Nat) (ja : Nat → Nat) (ra : Nat → List Leaf) (P : Nat → Prop) {jb : Nat} {rb : List Leaf} (hS : ∀ k, k ≤ K → (S k).1 < m)
    (hs : ∀ k, k < K → (f (S k) = some (S (k + 1)) ∧ P k) ∨ f (S k) = some (m + ja k, ra k)) (he : f (S K) = some (m + jb, rb)) (hK : K < 1000000) :
    (loopL m f (S 0) = some (jb, rb) ∧ ∀ k, k < K → P k) ∨ ∃ k, k < K ∧ loopL m f (S 0) = some (ja k, ra k) := by
  by_cases h : ∀ k, k < K → f (S k) = some (S (k + 1)) ∧ P k
  · left
    exact ⟨loopL_run S K (fun k hk => ⟨(h k hk).1, hS (k + 1) (by omega)⟩) he (by omega), fun k hk => (h k hk).2⟩
  · right
    obtain ⟨k, hk⟩ := Classical.not_forall.1 h
    rw [Classical.not_imp] at hk
    obtain ⟨hk, hp⟩ := hk
    obtain ⟨j, hj, hpj, hmin⟩ : ∃ j, j < K ∧ ¬ (f (S j) = some (S (j + 1)) ∧ P j) ∧ ∀ i, i < j → f (S i) = some (S (i + 1)) ∧ P i := by
      clear hs he h
      induction k using Nat.strongRecOn with
      | _ k ih =>
        by_cases q : ∀ i, i < k → f (S i) = some (S (i + 1)) ∧ P i
        · exact ⟨k, hk, hp, q⟩
        · obtain ⟨i, hi⟩ := Classical.not_forall.1 q
          rw [Classical.not_imp] at hi
          exact ih i hi.1 (by omega) hi.2
    exact ⟨j, hj, loopL_run S j (fun i hi => ⟨(hmin i hi).1, hS (i + 1) (by omega)⟩) ((hs j hj).resolve_left hpj) (by omega)⟩
def clamp31 (x : Int) : Int := if x < -2147483648 then -2147483648 else if 2147483648 < x then 2147483648 else x
/-- Sixteen numbers, the first so many clamped. -/
def clK (Y : List Int) : Nat → List Int
  | 0 => Y
  | k + 1 => (clK Y k).set k (clamp31 (Y.getD k 0))
theorem clK_len (Y : List Int) : ∀ k, (clK Y k).length = Y.length
  | 0 => rfl
  | k + 1 => by show ((clK Y k).set k _).length = _; rw [List.length_set, clK_len Y k]
theorem clK_get (Y : List Int) : ∀ k j, k ≤ j → j < Y.length → (clK Y k)[j]? = some (Y.getD j 0)
  | 0, j, _, h => get_some h
  | k + 1, j, hk, h => by
    show ((clK Y k).set k _)[j]? = _
    rw [List.getElem?_set_ne (by omega)]
    exact clK_get Y k j (by omega) h
/-- What the first so many tones add. -/
def toK (Y h : List Int) : Nat → List Int
  | 0 => Y
  | k + 1 => (toK Y h k).set (h.getD (k * 2) 0).toNat (IntKind.i64.wrap ((toK Y h k).getD (h.getD (k * 2) 0).toNat 0 + h.getD (k * 2 + 1) 0))
theorem toK_len (Y h : List Int) : ∀ k, (toK Y h k).length = Y.length
  | 0 => rfl
  | k + 1 => by show ((toK Y h k).set _ _).length = _; rw [List.length_set, toK_len Y h k]
def stepV (s : Int) : Int := if s < 0 then 0 else if 23 < s then 0 else IntKind.i64.wrap 0 + shlI .i64 1 s
end Go.Proofs.Ythofmhnbncopjaa
