/-
  A law's argument that is a slice of structs whose fields are integers, bools, and slices that nobody looks at. Conditions: none.
-/
import Derived.Test.YtlbfafbhflblcaaSxY
namespace Go.Sx
open Go Go.RowKit Go.WideShapes Go.ChangeShapes
set_option linter.unusedVariables false
def CK.wf : CK → Int → Prop
  | .int k, n => (Lit.int k n).wf = true
  | .bool, n => n = 0 ∨ n = 1
  | .any, _ => True
def Zhh (ks : List CK) (cs : List Value) : Prop := ∃ l : List Int, l.length = ks.length ∧ ∀ (j : Nat) (k : CK), ks[j]? = some k → ∃ c, cs[j]? = some c ∧ c.oneCell' = true ∧ k.is (l.getD j 0) c ∧ k.wf (l.getD j 0)
theorem Zhh.nil : Zhh [] [] := ⟨[], rfl, fun j k hj => by simp at hj⟩
theorem Zhh.cons {k : CK} {ks : List CK} {c : Value} {cs : List Value} {n : Int} (h1 : c.oneCell' = true) (h2 : k.is n c) (h3 : k.wf n) (h : Zhh ks cs) : Zhh (k :: ks) (c :: cs) := by
  obtain ⟨l, hl, hi⟩ := h
  refine ⟨n :: l, by simp [hl], fun j k' hj => ?_⟩
  cases j with
  | zero => simp at hj; subst hj; exact ⟨c, rfl, h1, h2, h3⟩
  | succ j => simpa using hi j k' (by simpa using hj)
section
variable {H : Type} {enc : TypeId × Value → H} {P : Program} {w : World} {base : Nat} {sp : Nat → Bool} {held : Bool}
end
end Go.Sx
