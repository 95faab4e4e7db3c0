/-
  Functions of this seat as functions of leaves, by program, and that the abstract machine answers as they do. Conditions: none.
-/
import Derived.Test.YtmmfgbifbbiihaaTab
import Derived.Test.YtmmfgbifbbiihaaSxW
import Derived.KernelRfl
namespace Go.Proofs.Ytmmfgbifbbiihaa.T
open Go Go.Sx
set_option maxRecDepth 100000
set_option linter.unusedVariables false
/-! function 37 -/
def es37 : List (FuncId × Ent × List (List Bool)) := []
theorem ck37 (n : Nat) : CallKOk (ckOfM es37) (evF tab (n + 0)) :=
  ckOfM_nil
def kc37 : KC := (.seq (.reg r37_0) (.seq (.block 0 (.seq (.reg r37_1) (.cond (.t 5) (.seq (.reg r37_2) (.seq (.kill [0, 1, 5, 12]) .ret)) (.seq (.reg r37_3) (.cond (.t 12) (.seq (.reg r37_4) (.seq (.kill [0, 1, 5, 12]) .ret)) .skip))))) (.seq (.reg r37_5) (.seq (.kill [0, 1, 5, 12]) .ret))))
def ain37 : List APat := [⟨[(.int .i64), (.int .i64)], []⟩]
def aout37 : List RPat := [⟨(.int .i64), [], []⟩]
def g37_0 (a0 : Int) (a1 : Int) : Option (Nat × List Leaf) :=
  cond (Decidable.decide (a1 < (0 : Int))) (some (0, [.i ((0 : Int))])) (cond (Decidable.decide ((62 : Int) < a1)) (some (0, [.i ((0 : Int))])) (cond (Decidable.decide (a1 = (0 : Int))) (some (0, [.i (a0)])) (if a1 < (0 : Int) then none else if Go.IntKind.wrap Go.IntKind.i64 (a1 - (1 : Int)) < (0 : Int) then none else some (0, [.i (Go.IntKind.wrap Go.IntKind.i64 (Go.Sx.shrI Go.IntKind.i64 a0 a1 + Go.Sx.bAnd Go.IntKind.i64 (Go.Sx.shrI Go.IntKind.i64 a0 (Go.IntKind.wrap Go.IntKind.i64 (a1 - (1 : Int)))) (1 : Int)))]))))
def g37 (s : Nat × List Leaf) : Option (Nat × List Leaf) := match s.1 with
  | 0 => let r := s.2; asI r (fun a0 r => asI r (fun a1 r => asE r (g37_0 a0 a1) none) none) none
  | _ => none
def ent37 : Ent := ⟨ain37, aout37, g37⟩
def os37 : List (Orc × List (List Bool)) := []
theorem ok37 (n : Nat) : EntSound (evF tab (n + 1)) 37 ent37 :=
  fn_sound (n := n + 0) (ck37 n) (OK := okOfM os37) (body := kc37) (show OrcsOk (okOfM os37) (evF tab (n + 0)) kc37 from ⟨trivial, ⟨⟨trivial, ⟨⟨trivial, ⟨trivial, trivial⟩⟩, ⟨trivial, ⟨⟨trivial, ⟨trivial, trivial⟩⟩, trivial⟩⟩⟩⟩, ⟨trivial, ⟨trivial, trivial⟩⟩⟩⟩) t37 (by kernel_rfl)
    (all_ins (Q := fun i sh => ∀ ls, fillA sh ls (fun args h => fnK (ckOfM es37) (okOfM os37) sf37 kc37 args h (findRes aout37 0) none) none = g37 (i, ls)) (l := ain37) ⟨fun ls => by kernel_rfl, trivial⟩)
/-! function 39 -/
def es39 : List (FuncId × Ent × List (List Bool)) := [(37, ent37, [[true]])]
theorem ck39 (n : Nat) : CallKOk (ckOfM es39) (evF tab (n + 1)) :=
  ckOfM_cons (ok37 (n + 0)) (ckOfM_nil)
def kc39 : KC := (.seq (.reg r39_0) (.seq (.reg r39_1) (.seq (.kill [0, 1]) .ret)))
def ain39 : List APat := [⟨[(.int .i64), (.int .i64)], []⟩]
def aout39 : List RPat := [⟨(.int .i64), [], []⟩]
def g39_0 (a0 : Int) (a1 : Int) : Option (Nat × List Leaf) :=
  altK (g37 (0, [.i (Go.IntKind.wrap Go.IntKind.i64 (a0 * a1)), .i ((14 : Int))])) [fun r => asI r (fun x1 r => asE r (some (0, [.i (x1)])) none) none] none
def g39 (s : Nat × List Leaf) : Option (Nat × List Leaf) := match s.1 with
  | 0 => let r := s.2; asI r (fun a0 r => asI r (fun a1 r => asE r (g39_0 a0 a1) none) none) none
  | _ => none
def ent39 : Ent := ⟨ain39, aout39, g39⟩
def os39 : List (Orc × List (List Bool)) := []
theorem ok39 (n : Nat) : EntSound (evF tab (n + 2)) 39 ent39 :=
  fn_sound (n := n + 1) (ck39 n) (OK := okOfM os39) (body := kc39) (show OrcsOk (okOfM os39) (evF tab (n + 1)) kc39 from ⟨trivial, ⟨trivial, ⟨trivial, trivial⟩⟩⟩) t39 (by kernel_rfl)
    (all_ins (Q := fun i sh => ∀ ls, fillA sh ls (fun args h => fnK (ckOfM es39) (okOfM os39) sf39 kc39 args h (findRes aout39 0) none) none = g39 (i, ls)) (l := ain39) ⟨fun ls => by kernel_rfl, trivial⟩)
/-! function 28 -/
def es28 : List (FuncId × Ent × List (List Bool)) := [(39, ent39, [[true]])]
theorem ck28 (n : Nat) : CallKOk (ckOfM es28) (evF tab (n + 2)) :=
  ckOfM_cons (ok39 (n + 0)) (ckOfM_nil)
def kc28 : KC := (.seq (.reg r28_0) (.seq (.reg r28_1) (.seq (.reg r28_2) (.seq (.reg r28_3) (.seq (.reg r28_4) (.seq (.kill [0, 1, 2, 5]) .ret))))))
def ain28 : List APat := [⟨[(.int .i64), (.int .i64), (.ints .i64)], []⟩]
def aout28 : List RPat := [⟨(.tup [(.int .i64), (.int .i64)]), [], []⟩]
def g28_0 (a0 : Int) (a1 : Int) (a2 : List Int) : Option (Nat × List Leaf) :=
  optK (a2[(0 : Nat)]?) (fun x1 => altK (g39 (0, [.i (x1), .i (a1)])) [fun r => asI r (fun x2 r => asE r (optK (a2[(1 : Nat)]?) (fun x3 => altK (g39 (0, [.i (x3), .i (Go.IntKind.wrap Go.IntKind.i64 (a0 + x2))])) [fun r => asI r (fun x4 r => asE r (optK (a2[(0 : Nat)]?) (fun x5 => altK (g39 (0, [.i (x5), .i (Go.IntKind.wrap Go.IntKind.i64 (a1 - x4))])) [fun r => asI r (fun x6 r => asE r (some (0, [.i (Go.IntKind.wrap Go.IntKind.i64 (Go.IntKind.wrap Go.IntKind.i64 (a0 + x2) + x6)), .i (Go.IntKind.wrap Go.IntKind.i64 (a1 - x4))])) none) none] none) (none)) none) none] none) (none)) none) none] none) (none)
def g28 (s : Nat × List Leaf) : Option (Nat × List Leaf) := match s.1 with
  | 0 => let r := s.2; asI r (fun a0 r => asI r (fun a1 r => asL r (fun a2 r => asE r (g28_0 a0 a1 a2) none) none) none) none
  | _ => none
def ent28 : Ent := ⟨ain28, aout28, g28⟩
def os28 : List (Orc × List (List Bool)) := []
theorem ok28 (n : Nat) : EntSound (evF tab (n + 3)) 28 ent28 :=
  fn_sound (n := n + 2) (ck28 n) (OK := okOfM os28) (body := kc28) (show OrcsOk (okOfM os28) (evF tab (n + 2)) kc28 from ⟨trivial, ⟨trivial, ⟨trivial, ⟨trivial, ⟨trivial, ⟨trivial, trivial⟩⟩⟩⟩⟩⟩) t28 (by kernel_rfl)
    (all_ins (Q := fun i sh => ∀ ls, fillA sh ls (fun args h => fnK (ckOfM es28) (okOfM os28) sf28 kc28 args h (findRes aout28 0) none) none = g28 (i, ls)) (l := ain28) ⟨fun ls => by kernel_rfl, trivial⟩)
/-! function 36 -/
def es36 : List (FuncId × Ent × List (List Bool)) := [(39, ent39, [[true]])]
theorem ck36 (n : Nat) : CallKOk (ckOfM es36) (evF tab (n + 2)) :=
  ckOfM_cons (ok39 (n + 0)) (ckOfM_nil)
def kc36 : KC := (.seq (.reg r36_0) (.seq (.reg r36_1) (.seq (.reg r36_2) (.seq (.reg r36_3) (.seq (.reg r36_4) (.seq (.kill [0, 1, 2, 5]) .ret))))))
def ain36 : List APat := [⟨[(.int .i64), (.int .i64), (.ints .i64)], []⟩]
def aout36 : List RPat := [⟨(.tup [(.int .i64), (.int .i64)]), [], []⟩]
def g36_0 (a0 : Int) (a1 : Int) (a2 : List Int) : Option (Nat × List Leaf) :=
  optK (a2[(0 : Nat)]?) (fun x1 => altK (g39 (0, [.i (x1), .i (a1)])) [fun r => asI r (fun x2 r => asE r (optK (a2[(1 : Nat)]?) (fun x3 => altK (g39 (0, [.i (x3), .i (Go.IntKind.wrap Go.IntKind.i64 (a0 - x2))])) [fun r => asI r (fun x4 r => asE r (optK (a2[(0 : Nat)]?) (fun x5 => altK (g39 (0, [.i (x5), .i (Go.IntKind.wrap Go.IntKind.i64 (a1 + x4))])) [fun r => asI r (fun x6 r => asE r (some (0, [.i (Go.IntKind.wrap Go.IntKind.i64 (Go.IntKind.wrap Go.IntKind.i64 (a0 - x2) - x6)), .i (Go.IntKind.wrap Go.IntKind.i64 (a1 + x4))])) none) none] none) (none)) none) none] none) (none)) none) none] none) (none)
def g36 (s : Nat × List Leaf) : Option (Nat × List Leaf) := match s.1 with
  | 0 => let r := s.2; asI r (fun a0 r => asI r (fun a1 r => asL r (fun a2 r => asE r (g36_0 a0 a1 a2) none) none) none) none
  | _ => none
def ent36 : Ent := ⟨ain36, aout36, g36⟩
def os36 : List (Orc × List (List Bool)) := []
theorem ok36 (n : Nat) : EntSound (evF tab (n + 3)) 36 ent36 :=
  fn_sound (n := n + 2) (ck36 n) (OK := okOfM os36) (body := kc36) (show OrcsOk (okOfM os36) (evF tab (n + 2)) kc36 from ⟨trivial, ⟨trivial, ⟨trivial, ⟨trivial, ⟨trivial, ⟨trivial, trivial⟩⟩⟩⟩⟩⟩) t36 (by kernel_rfl)
    (all_ins (Q := fun i sh => ∀ ls, fillA sh ls (fun args h => fnK (ckOfM es36) (okOfM os36) sf36 kc36 args h (findRes aout36 0) none) none = g36 (i, ls)) (l := ain36) ⟨fun ls => by kernel_rfl, trivial⟩)
end Go.Proofs.Ytmmfgbifbbiihaa.T
