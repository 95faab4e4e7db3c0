/-
  Calls of the abstract machine over a range of numbers. Conditions: none.
-/
import Derived.Test.YthofmhnbncopjaaSxQ
namespace Go.Sx
def isTrue : Option (EV × List Row × List Nat) → Bool
  | some (.bool true, [], []) => true
  | _ => false
theorem of_isTrue {x : Option (EV × List Row × List Nat)} (h : isTrue x = true) : x = some (.bool true, [], []) := by
  unfold isTrue at h
  split at h
  · rfl
  · cases h
/-- All of a range. -/
theorem all_range {p : Int → Bool} {lo : Int} {n : Nat} (h : ((List.range n).all fun i => p (lo + i)) = true) {k : Int} (h1 : lo ≤ k) (h2 : k < lo + n) : p k = true := by
  rw [List.all_eq_true] at h
  have := h (k - lo).toNat (by rw [List.mem_range]; omega)
  rwa [show lo + ((k - lo).toNat : Int) = k by omega] at this
/-- What a call makes of what its body left. -/
def finish (fn : SFn) (m : Nat) : Option (SX × St) → Option (EV × List Row × List Nat)
  | some (.normal, st) | some (.ret, st) => (resAll st fn.res).bind fun l => leave m st (packRes l)
  | _ => none
theorem evF_eq {tab : FuncId → Option SFn} {n f : Nat} {args : List EV} {h : List Row} {fn : SFn} (hf : tab f = some fn) (hx : fn.ext = none) (hl : args.length = fn.np) :
    evF tab (n + 1) f args h = finish fn h.length (evC (evF tab n) fn.body { env := Sx.bind fn args, heap := h, m := h.length }) := by
  simp only [evF, hf, hx, hl, if_true]
  rfl
theorem evC_seq_of {C : CallF} {a b : SC} {st st' : St} (h : evC C a st = some (.normal, st')) : evC C (.seq a b) st = evC C b st' := by
  simp only [evC, h]
/-- A call without arguments whose answer is known already. -/
def memo (C : CallF) (f : FuncId) (r : Option (EV × List Row × List Nat)) : CallF := fun g a h =>
  match a, h with
  | [], [] => if g = f then r else C g [] []
  | a, h => C g a h
theorem memo_eq {C : CallF} {f : FuncId} {r : Option (EV × List Row × List Nat)} (h : C f [] [] = r) : memo C f r = C := by
  funext g a h'
  unfold memo
  split
  · split
    · rename_i e
      rw [e, h]
    · rfl
  · rfl
end Go.Sx
