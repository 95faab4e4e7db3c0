/-
  Functions of this seat as functions of leaves, by program, and that the abstract machine answers as they do. Conditions: none.
-/
import Derived.Test.YtbamcklflcikoaaTab
import Derived.Test.YtbamcklflcikoaaSxW
import Derived.KernelRfl
namespace Go.Proofs.Ytbamcklflcikoaa.T
open Go Go.Sx
set_option maxRecDepth 100000
set_option linter.unusedVariables false
/-! function 21 -/
def es21 : List (FuncId × Ent × List (List Bool)) := []
theorem ck21 (n : Nat) : CallKOk (ckOfM es21) (evF tab (n + 0)) :=
  ckOfM_nil
def kc21 : KC := (.seq (.reg r21_0) (.seq (.block 0 (.seq (.reg r21_1) (.cond (.t 5) (.seq (.reg r21_2) (.seq (.kill [0, 1, 5, 12]) .ret)) (.seq (.reg r21_3) (.cond (.t 12) (.seq (.reg r21_4) (.seq (.kill [0, 1, 5, 12]) .ret)) .skip))))) (.seq (.reg r21_5) (.seq (.kill [0, 1, 5, 12]) .ret))))
def ain21 : List APat := [⟨[(.int .i64), (.int .i64)], []⟩]
def aout21 : List RPat := [⟨(.int .i64), [], []⟩]
def g21_0 (a0 : Int) (a1 : Int) : Option (Nat × List Leaf) :=
  cond (Decidable.decide (a1 < (0 : Int))) (some (0, [.i ((0 : Int))])) (cond (Decidable.decide ((62 : Int) < a1)) (some (0, [.i ((0 : Int))])) (cond (Decidable.decide (a1 = (0 : Int))) (some (0, [.i (a0)])) (if a1 < (0 : Int) then none else if Go.IntKind.wrap Go.IntKind.i64 (a1 - (1 : Int)) < (0 : Int) then none else some (0, [.i (Go.IntKind.wrap Go.IntKind.i64 (Go.Sx.shrI Go.IntKind.i64 a0 a1 + Go.Sx.bAnd Go.IntKind.i64 (Go.Sx.shrI Go.IntKind.i64 a0 (Go.IntKind.wrap Go.IntKind.i64 (a1 - (1 : Int)))) (1 : Int)))]))))
def g21 (s : Nat × List Leaf) : Option (Nat × List Leaf) := match s.1 with
  | 0 => let r := s.2; asI r (fun a0 r => asI r (fun a1 r => asE r (g21_0 a0 a1) none) none) none
  | _ => none
def ent21 : Ent := ⟨ain21, aout21, g21⟩
def os21 : List (Orc × List (List Bool)) := []
theorem ok21 (n : Nat) : EntSound (evF tab (n + 1)) 21 ent21 :=
  fn_sound (n := n + 0) (ck21 n) (OK := okOfM os21) (body := kc21) (show OrcsOk (okOfM os21) (evF tab (n + 0)) kc21 from ⟨trivial, ⟨⟨trivial, ⟨⟨trivial, ⟨trivial, trivial⟩⟩, ⟨trivial, ⟨⟨trivial, ⟨trivial, trivial⟩⟩, trivial⟩⟩⟩⟩, ⟨trivial, ⟨trivial, trivial⟩⟩⟩⟩) t21 (by kernel_rfl)
    (all_ins (Q := fun i sh => ∀ ls, fillA sh ls (fun args h => fnK (ckOfM es21) (okOfM os21) sf21 kc21 args h (findRes aout21 0) none) none = g21 (i, ls)) (l := ain21) ⟨fun ls => by kernel_rfl, trivial⟩)
/-! function 20 -/
def es20 : List (FuncId × Ent × List (List Bool)) := [(21, ent21, [[true]])]
theorem ck20 (n : Nat) : CallKOk (ckOfM es20) (evF tab (n + 1)) :=
  ckOfM_cons (ok21 (n + 0)) (ckOfM_nil)
def kc20 : KC := (.seq (.reg r20_0) (.seq (.reg r20_1) (.seq (.kill [0, 1]) .ret)))
def ain20 : List APat := [⟨[(.int .i64), (.int .i64)], []⟩]
def aout20 : List RPat := [⟨(.int .i64), [], []⟩]
def g20_0 (a0 : Int) (a1 : Int) : Option (Nat × List Leaf) :=
  altK (g21 (0, [.i (Go.IntKind.wrap Go.IntKind.i64 (a0 * a1)), .i ((14 : Int))])) [fun r => asI r (fun x1 r => asE r (some (0, [.i (x1)])) none) none] none
def g20 (s : Nat × List Leaf) : Option (Nat × List Leaf) := match s.1 with
  | 0 => let r := s.2; asI r (fun a0 r => asI r (fun a1 r => asE r (g20_0 a0 a1) none) none) none
  | _ => none
def ent20 : Ent := ⟨ain20, aout20, g20⟩
def os20 : List (Orc × List (List Bool)) := []
theorem ok20 (n : Nat) : EntSound (evF tab (n + 2)) 20 ent20 :=
  fn_sound (n := n + 1) (ck20 n) (OK := okOfM os20) (body := kc20) (show OrcsOk (okOfM os20) (evF tab (n + 1)) kc20 from ⟨trivial, ⟨trivial, ⟨trivial, trivial⟩⟩⟩) t20 (by kernel_rfl)
    (all_ins (Q := fun i sh => ∀ ls, fillA sh ls (fun args h => fnK (ckOfM es20) (okOfM os20) sf20 kc20 args h (findRes aout20 0) none) none = g20 (i, ls)) (l := ain20) ⟨fun ls => by kernel_rfl, trivial⟩)
/-! function 15 -/
def es15 : List (FuncId × Ent × List (List Bool)) := [(20, ent20, [[true]])]
theorem ck15 (n : Nat) : CallKOk (ckOfM es15) (evF tab (n + 2)) :=
  ckOfM_cons (ok20 (n + 0)) (ckOfM_nil)
def kc15 : KC := (.seq (.reg r15_0) (.seq (.reg r15_1) (.seq (.reg r15_2) (.seq (.reg r15_3) (.seq (.reg r15_4) (.seq (.kill [0, 1, 2, 5]) .ret))))))
def ain15 : List APat := [⟨[(.int .i64), (.int .i64), (.ints .i64)], []⟩]
def aout15 : List RPat := [⟨(.tup [(.int .i64), (.int .i64)]), [], []⟩]
def g15_0 (a0 : Int) (a1 : Int) (a2 : List Int) : Option (Nat × List Leaf) :=
  optK (a2[(0 : Nat)]?) (fun x1 => altK (g20 (0, [.i (x1), .i (a1)])) [fun r => asI r (fun x2 r => asE r (optK (a2[(1 : Nat)]?) (fun x3 => altK (g20 (0, [.i (x3), .i (Go.IntKind.wrap Go.IntKind.i64 (a0 + x2))])) [fun r => asI r (fun x4 r => asE r (optK (a2[(0 : Nat)]?) (fun x5 => altK (g20 (0, [.i (x5), .i (Go.IntKind.wrap Go.IntKind.i64 (a1 - x4))])) [fun r => asI r (fun x6 r => asE r (some (0, [.i (Go.IntKind.wrap Go.IntKind.i64 (Go.IntKind.wrap Go.IntKind.i64 (a0 + x2) + x6)), .i (Go.IntKind.wrap Go.IntKind.i64 (a1 - x4))])) none) none] none) (none)) none) none] none) (none)) none) none] none) (none)
def g15 (s : Nat × List Leaf) : Option (Nat × List Leaf) := match s.1 with
  | 0 => let r := s.2; asI r (fun a0 r => asI r (fun a1 r => asL r (fun a2 r => asE r (g15_0 a0 a1 a2) none) none) none) none
  | _ => none
def ent15 : Ent := ⟨ain15, aout15, g15⟩
def os15 : List (Orc × List (List Bool)) := []
theorem ok15 (n : Nat) : EntSound (evF tab (n + 3)) 15 ent15 :=
  fn_sound (n := n + 2) (ck15 n) (OK := okOfM os15) (body := kc15) (show OrcsOk (okOfM os15) (evF tab (n + 2)) kc15 from ⟨trivial, ⟨trivial, ⟨trivial, ⟨trivial, ⟨trivial, ⟨trivial, trivial⟩⟩⟩⟩⟩⟩) t15 (by kernel_rfl)
    (all_ins (Q := fun i sh => ∀ ls, fillA sh ls (fun args h => fnK (ckOfM es15) (okOfM os15) sf15 kc15 args h (findRes aout15 0) none) none = g15 (i, ls)) (l := ain15) ⟨fun ls => by kernel_rfl, trivial⟩)
/-! function 17 -/
def es17 : List (FuncId × Ent × List (List Bool)) := [(20, ent20, [[true]])]
theorem ck17 (n : Nat) : CallKOk (ckOfM es17) (evF tab (n + 2)) :=
  ckOfM_cons (ok20 (n + 0)) (ckOfM_nil)
def kc17 : KC := (.seq (.reg r17_0) (.seq (.reg r17_1) (.seq (.reg r17_2) (.seq (.reg r17_3) (.seq (.reg r17_4) (.seq (.kill [0, 1, 2, 5]) .ret))))))
def ain17 : List APat := [⟨[(.int .i64), (.int .i64), (.ints .i64)], []⟩]
def aout17 : List RPat := [⟨(.tup [(.int .i64), (.int .i64)]), [], []⟩]
def g17_0 (a0 : Int) (a1 : Int) (a2 : List Int) : Option (Nat × List Leaf) :=
  optK (a2[(0 : Nat)]?) (fun x1 => altK (g20 (0, [.i (x1), .i (a1)])) [fun r => asI r (fun x2 r => asE r (optK (a2[(1 : Nat)]?) (fun x3 => altK (g20 (0, [.i (x3), .i (Go.IntKind.wrap Go.IntKind.i64 (a0 - x2))])) [fun r => asI r (fun x4 r => asE r (optK (a2[(0 : Nat)]?) (fun x5 => altK (g20 (0, [.i (x5), .i (Go.IntKind.wrap Go.IntKind.i64 (a1 + x4))])) [fun r => asI r (fun x6 r => asE r (some (0, [.i (Go.IntKind.wrap Go.IntKind.i64 (Go.IntKind.wrap Go.IntKind.i64 (a0 - x2) - x6)), .i (Go.IntKind.wrap Go.IntKind.i64 (a1 + x4))])) none) none] none) (none)) none) none] none) (none)) none) none] none) (none)
def g17 (s : Nat × List Leaf) : Option (Nat × List Leaf) := match s.1 with
  | 0 => let r := s.2; asI r (fun a0 r => asI r (fun a1 r => asL r (fun a2 r => asE r (g17_0 a0 a1 a2) none) none) none) none
  | _ => none
def ent17 : Ent := ⟨ain17, aout17, g17⟩
def os17 : List (Orc × List (List Bool)) := []
theorem ok17 (n : Nat) : EntSound (evF tab (n + 3)) 17 ent17 :=
  fn_sound (n := n + 2) (ck17 n) (OK := okOfM os17) (body := kc17) (show OrcsOk (okOfM os17) (evF tab (n + 2)) kc17 from ⟨trivial, ⟨trivial, ⟨trivial, ⟨trivial, ⟨trivial, ⟨trivial, trivial⟩⟩⟩⟩⟩⟩) t17 (by kernel_rfl)
    (all_ins (Q := fun i sh => ∀ ls, fillA sh ls (fun args h => fnK (ckOfM es17) (okOfM os17) sf17 kc17 args h (findRes aout17 0) none) none = g17 (i, ls)) (l := ain17) ⟨fun ls => by kernel_rfl, trivial⟩)
end Go.Proofs.Ytbamcklflcikoaa.T
