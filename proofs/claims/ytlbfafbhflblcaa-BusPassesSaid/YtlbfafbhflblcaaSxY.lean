/-
  A law's argument that is a struct of flat fields and of slices. Conditions: none.
-/
import Derived.Test.YtlbfafbhflblcaaSxX
namespace Go.Sx
open Go Go.RowKit Go.WideShapes Go.ChangeShapes
set_option linter.unusedVariables false
inductive CT where
  | flat (b : BT)
  | sl (t : TypeId)
section
variable {H : Type} (enc : TypeId × Value → H) (P : Program) (w : World) (base : Nat) (sp : Nat → Bool) (held : Bool)
def Zoa : CT → Value → Prop
  | .flat b, v => Zmz b v
  | .sl t, v => v.cells.toList = [v] ∧ v.oneCell' = true ∧ ∃ d p, DataW.Trod enc P w base sp held t v d p
def ZaY : List CT → List Value → Prop
  | [], vs => vs = []
  | b :: bs, vs => ∃ v r, vs = v :: r ∧ Zoa enc P w base sp held b v ∧ ZaY bs r
end
section
variable {H : Type} {enc : TypeId × Value → H} {P : Program} {w : World} {base : Nat} {sp : Nat → Bool} {held : Bool}
theorem ZaY.append : ∀ {a b : List CT} {x y : List Value}, ZaY enc P w base sp held a x → ZaY enc P w base sp held b y → ZaY enc P w base sp held (a ++ b) (x ++ y)
  | [], b, x, y, h, k => by simp only [ZaY] at h; subst h; exact k
  | c :: a, b, x, y, h, k => by
    obtain ⟨v, r, rfl, h1, h2⟩ := h
    exact ⟨v, r ++ y, rfl, h1, h2.append k⟩
theorem ZaY.of_flat : ∀ {bs : List BT} {x : List Value}, Z3 bs x → ZaY enc P w base sp held (bs.map .flat) x
  | [], x, h => by simpa [Z3, ZaY] using h
  | b :: bs, x, h => by
    obtain ⟨v, r, rfl, h1, h2⟩ := h
    exact ⟨v, r, rfl, h1, ZaY.of_flat h2⟩
end
end Go.Sx
