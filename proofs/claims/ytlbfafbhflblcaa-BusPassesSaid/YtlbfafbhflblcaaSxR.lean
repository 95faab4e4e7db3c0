/-
  Calls of the abstract machine over a range of numbers. Conditions: none.
-/
import Derived.Test.YtlbfafbhflblcaaSxQ
namespace Go.Sx
def ZnC (fn : SFn) (m : Nat) : Option (SX × St) → Option (EV × List Row × List Nat)
  | some (.normal, st) | some (.ret, st) => (ZbW st fn.res).bind fun l => ZfG m st (ZbX l)
  | _ => none
theorem ZnD {tab : FuncId → Option SFn} {n f : Nat} {args : List EV} {h : List Row} {fn : SFn} (hf : tab f = some fn) (hx : fn.ext = none) (hl : args.length = fn.np) :
    evF tab (n + 1) f args h = ZnC fn h.length (evC (evF tab n) fn.body { env := Sx.bind fn args, heap := h, m := h.length }) := by
  simp only [evF, hf, hx, hl, if_true]
  rfl
end Go.Sx
