/-
  Functions of this seat as functions of leaves, by program, and that the abstract machine answers as they do. Conditions: none.
-/
import Derived.Test.YtdngjlgbebmbhaaDecJ
import Derived.Test.YtdngjlgbebmbhaaDecK
import Derived.KernelRfl
namespace Go.Proofs.Ytdngjlgbebmbhaa.L
open Go Go.Sx
set_option maxRecDepth 100000
set_option linter.unusedVariables false
abbrev pI : Pat := .int .i64
abbrev kI : NK := .c (.int .i64)
abbrev pF0 : Pat := .nest [kI, kI, kI, kI, (.si .i64 2), kI, kI, kI, kI, kI, kI, kI, kI, kI, kI, kI, kI, kI, kI, kI, kI, kI, kI, kI, kI, kI, kI, kI, kI]
def asI4 {α : Type} (ls : List Leaf) (k : Int → Int → Int → Int → List Leaf → α) (z : α) : α := asI ls (fun a r => asI r (fun b r => asI r (fun c r => asI r (fun d r => k a b c d r) z) z) z) z
theorem asI4_i {α : Type} (a b c d : Int) (r : List Leaf) (k : Int → Int → Int → Int → List Leaf → α) (z : α) : asI4 (.i a :: .i b :: .i c :: .i d :: r) k z = k a b c d r := rfl

/-! function 10: closed -/
theorem ok10 (n : Nat) : EntSound (evF tab (n + 20)) 10 awakeE := awake_sound (by kernel_rfl)
end Go.Proofs.Ytdngjlgbebmbhaa.L
