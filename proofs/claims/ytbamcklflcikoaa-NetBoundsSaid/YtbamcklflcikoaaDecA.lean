/-
  Functions of this seat as functions of leaves, by program, and that the abstract machine answers as they do. Conditions: none.
-/
import Derived.Test.YtbamcklflcikoaaNetG
import Derived.Test.YtbamcklflcikoaaSxW
import Derived.KernelRfl
namespace Go.Proofs.Ytbamcklflcikoaa.A
open Go Go.Sx
set_option maxRecDepth 100000
set_option linter.unusedVariables false
/-! function 16 -/
def es16 : List (FuncId × Ent × List (List Bool)) := []
theorem ck16 (n : Nat) : CallKOk (ckOfM es16) (evF tab (n + 0)) :=
  ckOfM_nil
def kc16 : KC := (.seq (.reg r16_0) (.seq (.seq (.reg r16_1) (.cond (.t 10) (.seq (.reg r16_2) (.seq (.kill [0, 3, 4, 10]) .ret)) .skip)) (.seq (.reg r16_3) (.seq (.reg r16_4) (.seq (.reg r16_5) (.seq (.kill [0, 3, 4, 10]) .ret))))))
def ain16 : List APat := [⟨[(.int .i64)], []⟩]
def aout16 : List RPat := [⟨(.intsE .i64 2), [], []⟩]
def g16_0 (a0 : Int) : Option (Nat × List Leaf) :=
  cond (Decidable.decide (a0 < (0 : Int))) (some (0, [.i ((0 : Int)), .i ((0 : Int))])) (cond (Decidable.decide ((8 : Int) ≤ a0)) (some (0, [.i ((0 : Int)), .i ((0 : Int))])) (if Go.IntKind.wrap Go.IntKind.i64 ((1024 : Int) + Go.IntKind.wrap Go.IntKind.i64 (Go.IntKind.wrap Go.IntKind.i64 (Go.IntKind.wrap Go.IntKind.i64 ((2 : Int) * a0) + (1 : Int)) * Go.IntKind.wrap Go.IntKind.i64 (Go.IntKind.wrap Go.IntKind.i64 ((2 : Int) * a0) + (1 : Int)))) = (0 : Int) then none else some (0, [.i (Go.Sx.shlI Go.IntKind.i64 (Go.IntKind.wrap Go.IntKind.i64 (Go.IntKind.wrap Go.IntKind.i64 ((2 : Int) * a0) + (1 : Int))) (9 : Int)), .i (Go.IntKind.wrap Go.IntKind.i64 (Int.tdiv (Go.IntKind.wrap Go.IntKind.i64 (Go.Sx.shlI Go.IntKind.i64 (Go.IntKind.wrap Go.IntKind.i64 (Go.IntKind.wrap Go.IntKind.i64 ((2 : Int) * a0) + (1 : Int))) (20 : Int) + Go.IntKind.wrap Go.IntKind.i64 (Int.tdiv (Go.IntKind.wrap Go.IntKind.i64 ((1024 : Int) + Go.IntKind.wrap Go.IntKind.i64 (Go.IntKind.wrap Go.IntKind.i64 (Go.IntKind.wrap Go.IntKind.i64 ((2 : Int) * a0) + (1 : Int)) * Go.IntKind.wrap Go.IntKind.i64 (Go.IntKind.wrap Go.IntKind.i64 ((2 : Int) * a0) + (1 : Int))))) (2 : Int)))) (Go.IntKind.wrap Go.IntKind.i64 ((1024 : Int) + Go.IntKind.wrap Go.IntKind.i64 (Go.IntKind.wrap Go.IntKind.i64 (Go.IntKind.wrap Go.IntKind.i64 ((2 : Int) * a0) + (1 : Int)) * Go.IntKind.wrap Go.IntKind.i64 (Go.IntKind.wrap Go.IntKind.i64 ((2 : Int) * a0) + (1 : Int)))))))])))
def g16 (s : Nat × List Leaf) : Option (Nat × List Leaf) := match s.1 with
  | 0 => let r := s.2; asI r (fun a0 r => asE r (g16_0 a0) none) none
  | _ => none
def ent16 : Ent := ⟨ain16, aout16, g16⟩
def os16 : List (Orc × List (List Bool)) := []
theorem ok16 (n : Nat) : EntSound (evF tab (n + 1)) 16 ent16 :=
  fn_sound (n := n + 0) (ck16 n) (OK := okOfM os16) (body := kc16) (show OrcsOk (okOfM os16) (evF tab (n + 0)) kc16 from ⟨trivial, ⟨⟨trivial, ⟨⟨trivial, ⟨trivial, trivial⟩⟩, trivial⟩⟩, ⟨trivial, ⟨trivial, ⟨trivial, ⟨trivial, trivial⟩⟩⟩⟩⟩⟩) t16 (by kernel_rfl)
    (all_ins (Q := fun i sh => ∀ ls, fillA sh ls (fun args h => fnK (ckOfM es16) (okOfM os16) sf16 kc16 args h (findRes aout16 0) none) none = g16 (i, ls)) (l := ain16) ⟨fun ls => by kernel_rfl, trivial⟩)
/-! function 13 -/
def es13 : List (FuncId × Ent × List (List Bool)) := [(16, ent16, [[true]])]
theorem ck13 (n : Nat) : CallKOk (ckOfM es13) (evF tab (n + 1)) :=
  ckOfM_cons (ok16 (n + 0)) (ckOfM_nil)
def kc13_0 : KC := (.seq (.seq (.reg r13_3) (.seq (.cond (.t 4) .skip (.seq (.kill [2, 3, 4]) (.exit 0))) (.seq (.block 1 (.seq (.reg r13_4) (.reg r13_5))) (.reg r13_6)))) (.kill [2, 4]))
def in13_0 : List SPat := [⟨[(0, (.ptr 0 (.c 0))), (1, (.ptr 1 (.c 0))), (2, .unk), (3, (.cint .i64 (0))), (4, .unk)], [(true, (.ints .i64)), (true, (.ints .i64))], [], 0⟩, ⟨[(0, (.ptr 0 (.c 0))), (1, (.ptr 1 (.c 0))), (2, .unk), (3, (.cint .i64 (1))), (4, .unk)], [(true, (.ints .i64)), (true, (.ints .i64))], [], 0⟩, ⟨[(0, (.ptr 0 (.c 0))), (1, (.ptr 1 (.c 0))), (2, .unk), (3, (.cint .i64 (2))), (4, .unk)], [(true, (.ints .i64)), (true, (.ints .i64))], [], 0⟩, ⟨[(0, (.ptr 0 (.c 0))), (1, (.ptr 1 (.c 0))), (2, .unk), (3, (.cint .i64 (3))), (4, .unk)], [(true, (.ints .i64)), (true, (.ints .i64))], [], 0⟩, ⟨[(0, (.ptr 0 (.c 0))), (1, (.ptr 1 (.c 0))), (2, .unk), (3, (.cint .i64 (4))), (4, .unk)], [(true, (.ints .i64)), (true, (.ints .i64))], [], 0⟩, ⟨[(0, (.ptr 0 (.c 0))), (1, (.ptr 1 (.c 0))), (2, .unk), (3, (.cint .i64 (5))), (4, .unk)], [(true, (.ints .i64)), (true, (.ints .i64))], [], 0⟩, ⟨[(0, (.ptr 0 (.c 0))), (1, (.ptr 1 (.c 0))), (2, .unk), (3, (.cint .i64 (6))), (4, .unk)], [(true, (.ints .i64)), (true, (.ints .i64))], [], 0⟩, ⟨[(0, (.ptr 0 (.c 0))), (1, (.ptr 1 (.c 0))), (2, .unk), (3, (.cint .i64 (7))), (4, .unk)], [(true, (.ints .i64)), (true, (.ints .i64))], [], 0⟩, ⟨[(0, (.ptr 0 (.c 0))), (1, (.ptr 1 (.c 0))), (2, .unk), (3, (.cint .i64 (8))), (4, .unk)], [(true, (.ints .i64)), (true, (.ints .i64))], [], 0⟩]
def out13_0 : List (SX × SPat) := [((.exit 0), ⟨[(0, (.ptr 0 (.c 0))), (1, (.ptr 1 (.c 0))), (2, .unk), (3, .unk), (4, .unk)], [(true, (.ints .i64)), (true, (.ints .i64))], [], 0⟩)]
def f13_0_0 (h0 : List Int) (h1 : List Int) : Option (Nat × List Leaf) :=
  altK (g16 (0, [.i ((0 : Int))])) [fun r => asI r (fun x1_0 r => asI r (fun x1_1 r => asE r (if (0 : Nat) + List.length [x1_0, x1_1] ≤ List.length h1 then some (1, [.l (h0), .l ([x1_0, x1_1] ++ List.drop ((0 : Nat) + List.length [x1_0, x1_1]) h1)]) else none) none) none) none] none
def f13_0_1 (h0 : List Int) (h1 : List Int) : Option (Nat × List Leaf) :=
  altK (g16 (0, [.i ((1 : Int))])) [fun r => asI r (fun x1_0 r => asI r (fun x1_1 r => asE r (if (2 : Nat) + List.length [x1_0, x1_1] ≤ List.length h1 then some (2, [.l (h0), .l (List.take (2 : Nat) h1 ++ ([x1_0, x1_1] ++ List.drop ((2 : Nat) + List.length [x1_0, x1_1]) h1))]) else none) none) none) none] none
def f13_0_2 (h0 : List Int) (h1 : List Int) : Option (Nat × List Leaf) :=
  altK (g16 (0, [.i ((2 : Int))])) [fun r => asI r (fun x1_0 r => asI r (fun x1_1 r => asE r (if (4 : Nat) + List.length [x1_0, x1_1] ≤ List.length h1 then some (3, [.l (h0), .l (List.take (4 : Nat) h1 ++ ([x1_0, x1_1] ++ List.drop ((4 : Nat) + List.length [x1_0, x1_1]) h1))]) else none) none) none) none] none
def f13_0_3 (h0 : List Int) (h1 : List Int) : Option (Nat × List Leaf) :=
  altK (g16 (0, [.i ((3 : Int))])) [fun r => asI r (fun x1_0 r => asI r (fun x1_1 r => asE r (if (6 : Nat) + List.length [x1_0, x1_1] ≤ List.length h1 then some (4, [.l (h0), .l (List.take (6 : Nat) h1 ++ ([x1_0, x1_1] ++ List.drop ((6 : Nat) + List.length [x1_0, x1_1]) h1))]) else none) none) none) none] none
def f13_0_4 (h0 : List Int) (h1 : List Int) : Option (Nat × List Leaf) :=
  altK (g16 (0, [.i ((4 : Int))])) [fun r => asI r (fun x1_0 r => asI r (fun x1_1 r => asE r (if (8 : Nat) + List.length [x1_0, x1_1] ≤ List.length h1 then some (5, [.l (h0), .l (List.take (8 : Nat) h1 ++ ([x1_0, x1_1] ++ List.drop ((8 : Nat) + List.length [x1_0, x1_1]) h1))]) else none) none) none) none] none
def f13_0_5 (h0 : List Int) (h1 : List Int) : Option (Nat × List Leaf) :=
  altK (g16 (0, [.i ((5 : Int))])) [fun r => asI r (fun x1_0 r => asI r (fun x1_1 r => asE r (if (10 : Nat) + List.length [x1_0, x1_1] ≤ List.length h1 then some (6, [.l (h0), .l (List.take (10 : Nat) h1 ++ ([x1_0, x1_1] ++ List.drop ((10 : Nat) + List.length [x1_0, x1_1]) h1))]) else none) none) none) none] none
def f13_0_6 (h0 : List Int) (h1 : List Int) : Option (Nat × List Leaf) :=
  altK (g16 (0, [.i ((6 : Int))])) [fun r => asI r (fun x1_0 r => asI r (fun x1_1 r => asE r (if (12 : Nat) + List.length [x1_0, x1_1] ≤ List.length h1 then some (7, [.l (h0), .l (List.take (12 : Nat) h1 ++ ([x1_0, x1_1] ++ List.drop ((12 : Nat) + List.length [x1_0, x1_1]) h1))]) else none) none) none) none] none
def f13_0_7 (h0 : List Int) (h1 : List Int) : Option (Nat × List Leaf) :=
  altK (g16 (0, [.i ((7 : Int))])) [fun r => asI r (fun x1_0 r => asI r (fun x1_1 r => asE r (if (14 : Nat) + List.length [x1_0, x1_1] ≤ List.length h1 then some (8, [.l (h0), .l (List.take (14 : Nat) h1 ++ ([x1_0, x1_1] ++ List.drop ((14 : Nat) + List.length [x1_0, x1_1]) h1))]) else none) none) none) none] none
def f13_0_8 (h0 : List Int) (h1 : List Int) : Option (Nat × List Leaf) :=
  some (9, [.l (h0), .l (h1)])
def f13_0 (s : Nat × List Leaf) : Option (Nat × List Leaf) := match s.1 with
  | 0 => let r := s.2; asL r (fun h0 r => asL r (fun h1 r => asE r (f13_0_0 h0 h1) none) none) none
  | 1 => let r := s.2; asL r (fun h0 r => asL r (fun h1 r => asE r (f13_0_1 h0 h1) none) none) none
  | 2 => let r := s.2; asL r (fun h0 r => asL r (fun h1 r => asE r (f13_0_2 h0 h1) none) none) none
  | 3 => let r := s.2; asL r (fun h0 r => asL r (fun h1 r => asE r (f13_0_3 h0 h1) none) none) none
  | 4 => let r := s.2; asL r (fun h0 r => asL r (fun h1 r => asE r (f13_0_4 h0 h1) none) none) none
  | 5 => let r := s.2; asL r (fun h0 r => asL r (fun h1 r => asE r (f13_0_5 h0 h1) none) none) none
  | 6 => let r := s.2; asL r (fun h0 r => asL r (fun h1 r => asE r (f13_0_6 h0 h1) none) none) none
  | 7 => let r := s.2; asL r (fun h0 r => asL r (fun h1 r => asE r (f13_0_7 h0 h1) none) none) none
  | 8 => let r := s.2; asL r (fun h0 r => asL r (fun h1 r => asE r (f13_0_8 h0 h1) none) none) none
  | _ => none
def L13_0 (s : Nat × List Leaf) : Option (Nat × List Leaf) := loopL 9 f13_0 s
def orc13_0 : Orc := ⟨in13_0, out13_0, L13_0⟩
def os13_0 : List (Orc × List (List Bool)) := []
theorem snd13_0 (n : Nat) : OrcSound (evF tab (n + 1)) (.loop l13_7) orc13_0 :=
  loop_sound (b := kc13_0) (OK := okOfM os13_0) (ck13 n) (show OrcsOk (okOfM os13_0) (evF tab (n + 1)) kc13_0 from ⟨⟨trivial, ⟨⟨trivial, ⟨trivial, trivial⟩⟩, ⟨⟨trivial, trivial⟩, trivial⟩⟩⟩, trivial⟩) (ins := in13_0) (outs := out13_0) (f := f13_0) (by kernel_rfl)
    (all_ins (Q := fun i sh => ∀ ls, fillS sh ls (fun st => evK (ckOfM es13) (okOfM os13_0) kc13_0 st (findOut (in13_0.map (SX.normal, ·) ++ out13_0) 0) none) none = f13_0 (i, ls)) (l := in13_0) ⟨fun ls => by kernel_rfl, ⟨fun ls => by kernel_rfl, ⟨fun ls => by kernel_rfl, ⟨fun ls => by kernel_rfl, ⟨fun ls => by kernel_rfl, ⟨fun ls => by kernel_rfl, ⟨fun ls => by kernel_rfl, ⟨fun ls => by kernel_rfl, ⟨fun ls => by kernel_rfl, trivial⟩⟩⟩⟩⟩⟩⟩⟩⟩)
def kc13 : KC := (.seq (.reg r13_0) (.seq (.reg r13_1) (.seq (.seq (.reg r13_2) (.block 0 (.seq (.kill [2, 4]) (.orc 0 (.loop l13_7))))) (.seq (.reg r13_8) (.seq (.kill [1, 2, 3, 4]) .ret)))))
def ain13 : List APat := [⟨[], []⟩]
def aout13 : List RPat := [⟨(.ints .i64), [], []⟩]
def g13_0  : Option (Nat × List Leaf) :=
  altK (L13_0 (0, [.l ([(0 : Int), (0 : Int), (0 : Int), (0 : Int), (0 : Int), (0 : Int), (0 : Int), (0 : Int), (0 : Int), (0 : Int), (0 : Int), (0 : Int), (0 : Int), (0 : Int), (0 : Int), (0 : Int)]), .l ([(0 : Int), (0 : Int), (0 : Int), (0 : Int), (0 : Int), (0 : Int), (0 : Int), (0 : Int), (0 : Int), (0 : Int), (0 : Int), (0 : Int), (0 : Int), (0 : Int), (0 : Int), (0 : Int)])])) [fun r => asL r (fun x6h0 r => asL r (fun x6h1 r => asE r (if (16 : Nat) ≤ List.length x6h1 then if List.length (List.take (16 : Nat) x6h1) = (16 : Nat) then if (0 : Nat) + List.length (List.take (16 : Nat) x6h1) ≤ List.length x6h0 then if (16 : Nat) ≤ List.length (List.take (16 : Nat) x6h1 ++ List.drop ((0 : Nat) + List.length (List.take (16 : Nat) x6h1)) x6h0) then some (0, [.l (List.take (16 : Nat) (List.take (16 : Nat) x6h1 ++ List.drop ((0 : Nat) + List.length (List.take (16 : Nat) x6h1)) x6h0))]) else none else none else none else none) none) none) none] none
def g13 (s : Nat × List Leaf) : Option (Nat × List Leaf) := match s.1 with
  | 0 => let r := s.2; asE r (g13_0) none
  | _ => none
def ent13 : Ent := ⟨ain13, aout13, g13⟩
def os13 : List (Orc × List (List Bool)) := [(orc13_0, [[true], [true], [true], [true], [true], [true], [true], [true], [true]])]
theorem ok13 (n : Nat) : EntSound (evF tab (n + 2)) 13 ent13 :=
  fn_sound (n := n + 1) (ck13 n) (OK := okOfM os13) (body := kc13) (show OrcsOk (okOfM os13) (evF tab (n + 1)) kc13 from ⟨trivial, ⟨trivial, ⟨⟨trivial, ⟨trivial, (okOfM_ok (os := os13) (i := 0) (o := orc13_0) rfl (snd13_0 n))⟩⟩, ⟨trivial, ⟨trivial, trivial⟩⟩⟩⟩⟩) t13 (by kernel_rfl)
    (all_ins (Q := fun i sh => ∀ ls, fillA sh ls (fun args h => fnK (ckOfM es13) (okOfM os13) sf13 kc13 args h (findRes aout13 0) none) none = g13 (i, ls)) (l := ain13) ⟨fun ls => by kernel_rfl, trivial⟩)
/-! function 8 -/
def es8 : List (FuncId × Ent × List (List Bool)) := [(13, ent13, [[true]])]
theorem ck8 (n : Nat) : CallKOk (ckOfM es8) (evF tab (n + 2)) :=
  ckOfM_cons (ok13 (n + 0)) (ckOfM_nil)
def kc8 : KC := (.seq (.reg r8_0) (.seq (.reg r8_1) (.seq (.kill []) .ret)))
def ain8 : List APat := [⟨[], []⟩]
def aout8 : List RPat := [⟨(.ints .i64), [], []⟩]
def g8_0  : Option (Nat × List Leaf) :=
  altK (g13 (0, [])) [fun r => asL r (fun x1 r => asE r (if List.length x1 = (16 : Nat) then if (0 : Nat) + List.length x1 ≤ (16 : Nat) then if List.length (x1 ++ List.drop ((0 : Nat) + List.length x1) [(0 : Int), (0 : Int), (0 : Int), (0 : Int), (0 : Int), (0 : Int), (0 : Int), (0 : Int), (0 : Int), (0 : Int), (0 : Int), (0 : Int), (0 : Int), (0 : Int), (0 : Int), (0 : Int)]) = (16 : Nat) then if (0 : Nat) + List.length (x1 ++ List.drop ((0 : Nat) + List.length x1) [(0 : Int), (0 : Int), (0 : Int), (0 : Int), (0 : Int), (0 : Int), (0 : Int), (0 : Int), (0 : Int), (0 : Int), (0 : Int), (0 : Int), (0 : Int), (0 : Int), (0 : Int), (0 : Int)]) ≤ (16 : Nat) then if (16 : Nat) ≤ List.length (x1 ++ List.drop ((0 : Nat) + List.length x1) [(0 : Int), (0 : Int), (0 : Int), (0 : Int), (0 : Int), (0 : Int), (0 : Int), (0 : Int), (0 : Int), (0 : Int), (0 : Int), (0 : Int), (0 : Int), (0 : Int), (0 : Int), (0 : Int)] ++ List.drop ((0 : Nat) + List.length (x1 ++ List.drop ((0 : Nat) + List.length x1) [(0 : Int), (0 : Int), (0 : Int), (0 : Int), (0 : Int), (0 : Int), (0 : Int), (0 : Int), (0 : Int), (0 : Int), (0 : Int), (0 : Int), (0 : Int), (0 : Int), (0 : Int), (0 : Int)])) [(0 : Int), (0 : Int), (0 : Int), (0 : Int), (0 : Int), (0 : Int), (0 : Int), (0 : Int), (0 : Int), (0 : Int), (0 : Int), (0 : Int), (0 : Int), (0 : Int), (0 : Int), (0 : Int)]) then some (0, [.l (List.take (16 : Nat) (x1 ++ List.drop ((0 : Nat) + List.length x1) [(0 : Int), (0 : Int), (0 : Int), (0 : Int), (0 : Int), (0 : Int), (0 : Int), (0 : Int), (0 : Int), (0 : Int), (0 : Int), (0 : Int), (0 : Int), (0 : Int), (0 : Int), (0 : Int)] ++ List.drop ((0 : Nat) + List.length (x1 ++ List.drop ((0 : Nat) + List.length x1) [(0 : Int), (0 : Int), (0 : Int), (0 : Int), (0 : Int), (0 : Int), (0 : Int), (0 : Int), (0 : Int), (0 : Int), (0 : Int), (0 : Int), (0 : Int), (0 : Int), (0 : Int), (0 : Int)])) [(0 : Int), (0 : Int), (0 : Int), (0 : Int), (0 : Int), (0 : Int), (0 : Int), (0 : Int), (0 : Int), (0 : Int), (0 : Int), (0 : Int), (0 : Int), (0 : Int), (0 : Int), (0 : Int)]))]) else none else none else none else none else none) none) none] none
def g8 (s : Nat × List Leaf) : Option (Nat × List Leaf) := match s.1 with
  | 0 => let r := s.2; asE r (g8_0) none
  | _ => none
def ent8 : Ent := ⟨ain8, aout8, g8⟩
def os8 : List (Orc × List (List Bool)) := []
theorem ok8 (n : Nat) : EntSound (evF tab (n + 3)) 8 ent8 :=
  fn_sound (n := n + 2) (ck8 n) (OK := okOfM os8) (body := kc8) (show OrcsOk (okOfM os8) (evF tab (n + 2)) kc8 from ⟨trivial, ⟨trivial, ⟨trivial, trivial⟩⟩⟩) t8 (by kernel_rfl)
    (all_ins (Q := fun i sh => ∀ ls, fillA sh ls (fun args h => fnK (ckOfM es8) (okOfM os8) sf8 kc8 args h (findRes aout8 0) none) none = g8 (i, ls)) (l := ain8) ⟨fun ls => by kernel_rfl, trivial⟩)
/-! function 6 -/
def es6 : List (FuncId × Ent × List (List Bool)) := []
theorem ck6 (n : Nat) : CallKOk (ckOfM es6) (evF tab (n + 0)) :=
  ckOfM_nil
def kc6_0 : KC := (.seq (.seq (.seq (.reg r6_2) (.cond (.t 5) .skip (.seq (.kill [0, 1, 2, 3, 5, 17]) (.exit 0)))) (.seq (.block 1 (.seq (.reg r6_3) (.cond (.t 17) (.seq (.reg r6_4) (.seq (.kill [0, 1, 3, 5, 17]) .ret)) .skip))) (.reg r6_5))) (.kill [0, 2, 5, 17]))
def in6_0 : List SPat := [⟨[(0, .unk), (1, (.ptr 0 (.c 0))), (2, .unk), (3, (.int .i64)), (5, .unk), (17, .unk)], [(true, (.ints .i64))], [], 0⟩]
def out6_0 : List (SX × SPat) := [((.exit 0), ⟨[(0, .unk), (1, .unk), (2, .unk), (3, .unk), (5, .unk), (17, .unk)], [(true, (.ints .i64))], [], 0⟩), (.ret, ⟨[(0, .unk), (1, .unk), (2, (.cbool false)), (3, .unk), (5, .unk), (17, .unk)], [(true, (.ints .i64))], [], 0⟩)]
def f6_0_0 (t3 : Int) (h0 : List Int) : Option (Nat × List Leaf) :=
  cond (Decidable.decide (t3 < (16 : Int))) (if (0 : Int) ≤ t3 ∧ t3 < (16 : Int) then optK (h0[Int.toNat t3]?) (fun x1 => cond (Decidable.decide (x1 < (-4294967296 : Int))) (some (2, [.l (h0)])) (if (0 : Int) ≤ t3 ∧ t3 < (16 : Int) then optK (h0[Int.toNat t3]?) (fun x2 => cond (Decidable.decide ((4294967296 : Int) < x2)) (some (2, [.l (h0)])) (some (0, [.i (Go.IntKind.wrap Go.IntKind.i64 (t3 + (1 : Int))), .l (h0)]))) (none) else none)) (none) else none) (some (1, [.l (h0)]))
def f6_0 (s : Nat × List Leaf) : Option (Nat × List Leaf) := match s.1 with
  | 0 => let r := s.2; asI r (fun t3 r => asL r (fun h0 r => asE r (f6_0_0 t3 h0) none) none) none
  | _ => none
def L6_0 (s : Nat × List Leaf) : Option (Nat × List Leaf) := loopL 1 f6_0 s
def orc6_0 : Orc := ⟨in6_0, out6_0, L6_0⟩
def os6_0 : List (Orc × List (List Bool)) := []
theorem snd6_0 (n : Nat) : OrcSound (evF tab (n + 0)) (.loop l6_6) orc6_0 :=
  loop_sound (b := kc6_0) (OK := okOfM os6_0) (ck6 n) (show OrcsOk (okOfM os6_0) (evF tab (n + 0)) kc6_0 from ⟨⟨⟨trivial, ⟨trivial, ⟨trivial, trivial⟩⟩⟩, ⟨⟨trivial, ⟨⟨trivial, ⟨trivial, trivial⟩⟩, trivial⟩⟩, trivial⟩⟩, trivial⟩) (ins := in6_0) (outs := out6_0) (f := f6_0) (by kernel_rfl)
    (all_ins (Q := fun i sh => ∀ ls, fillS sh ls (fun st => evK (ckOfM es6) (okOfM os6_0) kc6_0 st (findOut (in6_0.map (SX.normal, ·) ++ out6_0) 0) none) none = f6_0 (i, ls)) (l := in6_0) ⟨fun ls => by kernel_rfl, trivial⟩)
def kc6 : KC := (.seq (.reg r6_0) (.seq (.seq (.reg r6_1) (.block 0 (.seq (.kill [0, 2, 5, 17]) (.orc 0 (.loop l6_6))))) (.seq (.reg r6_7) (.seq (.kill [0, 1, 3, 5, 17]) .ret))))
def ain6 : List APat := [⟨[(.ints .i64)], []⟩]
def aout6 : List RPat := [⟨.bool, [], []⟩]
def g6_0 (a0 : List Int) : Option (Nat × List Leaf) :=
  altK (L6_0 (0, [.i ((0 : Int)), .l (a0)])) [fun r => asL r (fun x7h0 r => asE r (some (0, [.b (Bool.true)])) none) none, fun r => asL r (fun x14h0 r => asE r (some (0, [.b (Bool.false)])) none) none] none
def g6 (s : Nat × List Leaf) : Option (Nat × List Leaf) := match s.1 with
  | 0 => let r := s.2; asL r (fun a0 r => asE r (g6_0 a0) none) none
  | _ => none
def ent6 : Ent := ⟨ain6, aout6, g6⟩
def os6 : List (Orc × List (List Bool)) := [(orc6_0, [[true, true]])]
theorem ok6 (n : Nat) : EntSound (evF tab (n + 1)) 6 ent6 :=
  fn_sound (n := n + 0) (ck6 n) (OK := okOfM os6) (body := kc6) (show OrcsOk (okOfM os6) (evF tab (n + 0)) kc6 from ⟨trivial, ⟨⟨trivial, ⟨trivial, (okOfM_ok (os := os6) (i := 0) (o := orc6_0) rfl (snd6_0 n))⟩⟩, ⟨trivial, ⟨trivial, trivial⟩⟩⟩⟩) t6 (by kernel_rfl)
    (all_ins (Q := fun i sh => ∀ ls, fillA sh ls (fun args h => fnK (ckOfM es6) (okOfM os6) sf6 kc6 args h (findRes aout6 0) none) none = g6 (i, ls)) (l := ain6) ⟨fun ls => by kernel_rfl, trivial⟩)
/-! function 7: closed -/
theorem ok7 (n : Nat) : EntSound (evF tab (n + 20)) 7 awakeE := awake_sound (by kernel_rfl)
/-! function 10 -/
def es10 : List (FuncId × Ent × List (List Bool)) := [(16, ent16, [[true]]), (15, T.ent15, [])]
theorem ck10 (n : Nat) : CallKOk (ckOfM es10) (evF tab (n + 3)) :=
  ckOfM_cons (ok16 (n + 2)) (ckOfM_cons (T.ok15 (n + 0)) (ckOfM_nil))
def kc10_0 : KC := (.seq (.seq (.seq (.reg r10_5) (.cond (.t 13) .skip (.seq (.kill [0, 5, 6, 7, 9, 13, 20]) (.exit 2)))) (.seq (.block 3 (.seq (.reg r10_6) (.cond (.t 20) (.seq (.reg r10_7) (.seq (.reg r10_8) (.reg r10_9))) .skip))) (.reg r10_10))) (.kill [0, 6, 7, 9, 13, 20]))
def in10_0 : List SPat := [⟨[(0, .unk), (1, (.ptr 0 (.c 0))), (2, (.ptr 1 (.c 0))), (3, (.int .i64)), (4, (.int .i64)), (5, (.int .i64)), (6, .unk), (7, .unk), (9, .unk), (13, .unk), (20, .unk)], [(true, (.ints .i64)), (true, (.ints .i64))], [], 0⟩]
def out10_0 : List (SX × SPat) := [((.exit 2), ⟨[(0, .unk), (1, (.ptr 0 (.c 0))), (2, (.ptr 1 (.c 0))), (3, (.int .i64)), (4, (.int .i64)), (5, .unk), (6, .unk), (7, .unk), (9, .unk), (13, .unk), (20, .unk)], [(true, (.ints .i64)), (true, (.ints .i64))], [], 0⟩)]
def f10_0_0 (t3 : Int) (t4 : Int) (t5 : Int) (h0 : List Int) (h1 : List Int) : Option (Nat × List Leaf) :=
  cond (Decidable.decide (t5 < (16 : Int))) (if t3 = (0 : Int) then none else cond (Decidable.decide (Int.tmod (Go.IntKind.wrap Go.IntKind.i64 (Int.tdiv t5 t3)) (2 : Int) = (0 : Int))) (if (0 : Int) ≤ t5 ∧ t5 < (16 : Int) then optK (h0[Int.toNat t5]?) (fun x1 => if (0 : Int) ≤ Go.IntKind.wrap Go.IntKind.i64 (t5 + t3) ∧ Go.IntKind.wrap Go.IntKind.i64 (t5 + t3) < (16 : Int) then optK (h0[Int.toNat (Go.IntKind.wrap Go.IntKind.i64 (t5 + t3))]?) (fun x2 => altK (g16 (0, [.i (Int.tmod (Go.IntKind.wrap Go.IntKind.i64 (Go.IntKind.wrap Go.IntKind.i64 ((3 : Int) * t5) + Go.IntKind.wrap Go.IntKind.i64 ((5 : Int) * t4))) (8 : Int))])) [fun r => asI r (fun x3_0 r => asI r (fun x3_1 r => asE r (altK (T.g15 (0, [.i (x1), .i (x2), .l ([x3_0, x3_1])])) [fun r => asI r (fun x4_0 r => asI r (fun x4_1 r => asE r (if (0 : Int) ≤ t5 ∧ t5 < (16 : Int) then if Int.toNat t5 < List.length h0 then if (0 : Int) ≤ Go.IntKind.wrap Go.IntKind.i64 (t5 + t3) ∧ Go.IntKind.wrap Go.IntKind.i64 (t5 + t3) < (16 : Int) then if Int.toNat (Go.IntKind.wrap Go.IntKind.i64 (t5 + t3)) < List.length (List.set h0 (Int.toNat t5) x4_0) then some (0, [.i (t3), .i (t4), .i (Go.IntKind.wrap Go.IntKind.i64 (t5 + (1 : Int))), .l (List.set (List.set h0 (Int.toNat t5) x4_0) (Int.toNat (Go.IntKind.wrap Go.IntKind.i64 (t5 + t3))) x4_1), .l (h1)]) else none else none else none else none) none) none) none] none) none) none) none] none) (none) else none) (none) else none) (some (0, [.i (t3), .i (t4), .i (Go.IntKind.wrap Go.IntKind.i64 (t5 + (1 : Int))), .l (h0), .l (h1)]))) (some (1, [.i (t3), .i (t4), .l (h0), .l (h1)]))
def f10_0 (s : Nat × List Leaf) : Option (Nat × List Leaf) := match s.1 with
  | 0 => let r := s.2; asI r (fun t3 r => asI r (fun t4 r => asI r (fun t5 r => asL r (fun h0 r => asL r (fun h1 r => asE r (f10_0_0 t3 t4 t5 h0 h1) none) none) none) none) none) none
  | _ => none
def L10_0 (s : Nat × List Leaf) : Option (Nat × List Leaf) := loopL 1 f10_0 s
def orc10_0 : Orc := ⟨in10_0, out10_0, L10_0⟩
def os10_0 : List (Orc × List (List Bool)) := []
theorem snd10_0 (n : Nat) : OrcSound (evF tab (n + 3)) (.loop l10_11) orc10_0 :=
  loop_sound (b := kc10_0) (OK := okOfM os10_0) (ck10 n) (show OrcsOk (okOfM os10_0) (evF tab (n + 3)) kc10_0 from ⟨⟨⟨trivial, ⟨trivial, ⟨trivial, trivial⟩⟩⟩, ⟨⟨trivial, ⟨⟨trivial, ⟨trivial, trivial⟩⟩, trivial⟩⟩, trivial⟩⟩, trivial⟩) (ins := in10_0) (outs := out10_0) (f := f10_0) (by kernel_rfl)
    (all_ins (Q := fun i sh => ∀ ls, fillS sh ls (fun st => evK (ckOfM es10) (okOfM os10_0) kc10_0 st (findOut (in10_0.map (SX.normal, ·) ++ out10_0) 0) none) none = f10_0 (i, ls)) (l := in10_0) ⟨fun ls => by kernel_rfl, trivial⟩)
def kc10_1 : KC := (.seq (.seq (.seq (.reg r10_3) (.cond (.t 9) .skip (.seq (.kill [0, 3, 4, 5, 6, 7, 9, 13, 20]) (.exit 0)))) (.seq (.block 1 (.seq (.seq (.reg r10_4) (.block 2 (.seq (.kill [0, 6, 7, 9, 13, 20]) (.orc 0 (.loop l10_11))))) (.reg r10_12))) (.reg r10_13))) (.kill [0, 5, 6, 7, 9, 13, 20]))
def in10_1 : List SPat := [⟨[(0, .unk), (1, (.ptr 0 (.c 0))), (2, (.ptr 1 (.c 0))), (3, (.int .i64)), (4, (.int .i64)), (5, .unk), (6, .unk), (7, .unk), (9, .unk), (13, .unk), (20, .unk)], [(true, (.ints .i64)), (true, (.ints .i64))], [], 0⟩]
def out10_1 : List (SX × SPat) := [((.exit 0), ⟨[(0, .unk), (1, (.ptr 0 (.c 0))), (2, (.ptr 1 (.c 0))), (3, .unk), (4, .unk), (5, .unk), (6, .unk), (7, .unk), (9, .unk), (13, .unk), (20, .unk)], [(true, (.ints .i64)), (true, (.ints .i64))], [], 0⟩)]
def f10_1_0 (t3 : Int) (t4 : Int) (h0 : List Int) (h1 : List Int) : Option (Nat × List Leaf) :=
  cond (Decidable.decide (t4 < (4 : Int))) (altK (L10_0 (0, [.i (t3), .i (t4), .i ((0 : Int)), .l (h0), .l (h1)])) [fun r => asI r (fun x4 r => asI r (fun x5 r => asL r (fun x12h0 r => asL r (fun x12h1 r => asE r (some (0, [.i (Go.IntKind.wrap Go.IntKind.i64 ((2 : Int) * x4)), .i (Go.IntKind.wrap Go.IntKind.i64 (x5 + (1 : Int))), .l (x12h0), .l (x12h1)])) none) none) none) none) none] none) (some (1, [.l (h0), .l (h1)]))
def f10_1 (s : Nat × List Leaf) : Option (Nat × List Leaf) := match s.1 with
  | 0 => let r := s.2; asI r (fun t3 r => asI r (fun t4 r => asL r (fun h0 r => asL r (fun h1 r => asE r (f10_1_0 t3 t4 h0 h1) none) none) none) none) none
  | _ => none
def L10_1 (s : Nat × List Leaf) : Option (Nat × List Leaf) := loopL 1 f10_1 s
def orc10_1 : Orc := ⟨in10_1, out10_1, L10_1⟩
def os10_1 : List (Orc × List (List Bool)) := [(orc10_0, [[true]])]
theorem snd10_1 (n : Nat) : OrcSound (evF tab (n + 3)) (.loop l10_14) orc10_1 :=
  loop_sound (b := kc10_1) (OK := okOfM os10_1) (ck10 n) (show OrcsOk (okOfM os10_1) (evF tab (n + 3)) kc10_1 from ⟨⟨⟨trivial, ⟨trivial, ⟨trivial, trivial⟩⟩⟩, ⟨⟨⟨trivial, ⟨trivial, (okOfM_ok (os := os10_1) (i := 0) (o := orc10_0) rfl (snd10_0 n))⟩⟩, trivial⟩, trivial⟩⟩, trivial⟩) (ins := in10_1) (outs := out10_1) (f := f10_1) (by kernel_rfl)
    (all_ins (Q := fun i sh => ∀ ls, fillS sh ls (fun st => evK (ckOfM es10) (okOfM os10_1) kc10_1 st (findOut (in10_1.map (SX.normal, ·) ++ out10_1) 0) none) none = f10_1 (i, ls)) (l := in10_1) ⟨fun ls => by kernel_rfl, trivial⟩)
def kc10 : KC := (.seq (.reg r10_0) (.seq (.reg r10_1) (.seq (.seq (.reg r10_2) (.block 0 (.seq (.kill [0, 5, 6, 7, 9, 13, 20]) (.orc 1 (.loop l10_14))))) (.seq (.reg r10_15) (.seq (.kill [0, 1, 3, 4, 5, 6, 7, 9, 13, 20]) .ret)))))
def ain10 : List APat := [⟨[(.ints .i64)], []⟩]
def aout10 : List RPat := [⟨(.ints .i64), [], []⟩]
def g10_0 (a0 : List Int) : Option (Nat × List Leaf) :=
  altK (L10_1 (0, [.i ((1 : Int)), .i ((0 : Int)), .l (a0), .l ([(0 : Int), (0 : Int), (0 : Int), (0 : Int), (0 : Int), (0 : Int), (0 : Int), (0 : Int), (0 : Int), (0 : Int), (0 : Int), (0 : Int), (0 : Int), (0 : Int), (0 : Int), (0 : Int)])])) [fun r => asL r (fun x12h0 r => asL r (fun x12h1 r => asE r (if (16 : Nat) ≤ List.length x12h0 then if List.length (List.take (16 : Nat) x12h0) = (16 : Nat) then if (0 : Nat) + List.length (List.take (16 : Nat) x12h0) ≤ List.length x12h1 then if (16 : Nat) ≤ List.length (List.take (16 : Nat) x12h0 ++ List.drop ((0 : Nat) + List.length (List.take (16 : Nat) x12h0)) x12h1) then some (0, [.l (List.take (16 : Nat) (List.take (16 : Nat) x12h0 ++ List.drop ((0 : Nat) + List.length (List.take (16 : Nat) x12h0)) x12h1))]) else none else none else none else none) none) none) none] none
def g10 (s : Nat × List Leaf) : Option (Nat × List Leaf) := match s.1 with
  | 0 => let r := s.2; asL r (fun a0 r => asE r (g10_0 a0) none) none
  | _ => none
def ent10 : Ent := ⟨ain10, aout10, g10⟩
def os10 : List (Orc × List (List Bool)) := [(orc10_0, [[true]]), (orc10_1, [[true]])]
theorem ok10 (n : Nat) : EntSound (evF tab (n + 4)) 10 ent10 :=
  fn_sound (n := n + 3) (ck10 n) (OK := okOfM os10) (body := kc10) (show OrcsOk (okOfM os10) (evF tab (n + 3)) kc10 from ⟨trivial, ⟨trivial, ⟨⟨trivial, ⟨trivial, (okOfM_ok (os := os10) (i := 1) (o := orc10_1) rfl (snd10_1 n))⟩⟩, ⟨trivial, ⟨trivial, trivial⟩⟩⟩⟩⟩) t10 (by kernel_rfl)
    (all_ins (Q := fun i sh => ∀ ls, fillA sh ls (fun args h => fnK (ckOfM es10) (okOfM os10) sf10 kc10 args h (findRes aout10 0) none) none = g10 (i, ls)) (l := ain10) ⟨fun ls => by kernel_rfl, trivial⟩)
/-! function 11 -/
def es11 : List (FuncId × Ent × List (List Bool)) := []
theorem ck11 (n : Nat) : CallKOk (ckOfM es11) (evF tab (n + 0)) :=
  ckOfM_nil
def kc11_0 : KC := (.seq (.seq (.reg r11_2) (.seq (.cond (.t 4) .skip (.seq (.kill [2, 3, 4]) (.exit 0))) (.seq (.block 1 (.reg r11_3)) (.reg r11_4)))) (.kill [2, 4]))
def in11_0 : List SPat := [⟨[(0, (.int .i64)), (2, .unk), (3, (.int .i64)), (4, .unk)], [], [], 0⟩]
def out11_0 : List (SX × SPat) := [((.exit 0), ⟨[(0, (.int .i64)), (2, .unk), (3, .unk), (4, .unk)], [], [], 0⟩)]
def f11_0_0 (t0 : Int) (t3 : Int) : Option (Nat × List Leaf) :=
  cond (Decidable.decide (t3 < (4 : Int))) (some (0, [.i (Go.IntKind.wrap Go.IntKind.i64 (Go.IntKind.wrap Go.IntKind.i64 ((3 : Int) * t0) + (4 : Int))), .i (Go.IntKind.wrap Go.IntKind.i64 (t3 + (1 : Int)))])) (some (1, [.i (t0)]))
def f11_0 (s : Nat × List Leaf) : Option (Nat × List Leaf) := match s.1 with
  | 0 => let r := s.2; asI r (fun t0 r => asI r (fun t3 r => asE r (f11_0_0 t0 t3) none) none) none
  | _ => none
def L11_0 (s : Nat × List Leaf) : Option (Nat × List Leaf) := loopL 1 f11_0 s
def orc11_0 : Orc := ⟨in11_0, out11_0, L11_0⟩
def os11_0 : List (Orc × List (List Bool)) := []
theorem snd11_0 (n : Nat) : OrcSound (evF tab (n + 0)) (.loop l11_5) orc11_0 :=
  loop_sound (b := kc11_0) (OK := okOfM os11_0) (ck11 n) (show OrcsOk (okOfM os11_0) (evF tab (n + 0)) kc11_0 from ⟨⟨trivial, ⟨⟨trivial, ⟨trivial, trivial⟩⟩, ⟨trivial, trivial⟩⟩⟩, trivial⟩) (ins := in11_0) (outs := out11_0) (f := f11_0) (by kernel_rfl)
    (all_ins (Q := fun i sh => ∀ ls, fillS sh ls (fun st => evK (ckOfM es11) (okOfM os11_0) kc11_0 st (findOut (in11_0.map (SX.normal, ·) ++ out11_0) 0) none) none = f11_0 (i, ls)) (l := in11_0) ⟨fun ls => by kernel_rfl, trivial⟩)
def kc11 : KC := (.seq (.reg r11_0) (.seq (.seq (.reg r11_1) (.block 0 (.seq (.kill [2, 4]) (.orc 0 (.loop l11_5))))) (.seq (.reg r11_6) (.seq (.kill [0, 3, 4]) .ret))))
def ain11 : List APat := [⟨[(.int .i64)], []⟩]
def aout11 : List RPat := [⟨(.int .i64), [], []⟩]
def g11_0 (a0 : Int) : Option (Nat × List Leaf) :=
  altK (L11_0 (0, [.i (a0), .i ((0 : Int))])) [fun r => asI r (fun x1 r => asE r (some (0, [.i (x1)])) none) none] none
def g11 (s : Nat × List Leaf) : Option (Nat × List Leaf) := match s.1 with
  | 0 => let r := s.2; asI r (fun a0 r => asE r (g11_0 a0) none) none
  | _ => none
def ent11 : Ent := ⟨ain11, aout11, g11⟩
def os11 : List (Orc × List (List Bool)) := [(orc11_0, [[true]])]
theorem ok11 (n : Nat) : EntSound (evF tab (n + 1)) 11 ent11 :=
  fn_sound (n := n + 0) (ck11 n) (OK := okOfM os11) (body := kc11) (show OrcsOk (okOfM os11) (evF tab (n + 0)) kc11 from ⟨trivial, ⟨⟨trivial, ⟨trivial, (okOfM_ok (os := os11) (i := 0) (o := orc11_0) rfl (snd11_0 n))⟩⟩, ⟨trivial, ⟨trivial, trivial⟩⟩⟩⟩) t11 (by kernel_rfl)
    (all_ins (Q := fun i sh => ∀ ls, fillA sh ls (fun args h => fnK (ckOfM es11) (okOfM os11) sf11 kc11 args h (findRes aout11 0) none) none = g11 (i, ls)) (l := ain11) ⟨fun ls => by kernel_rfl, trivial⟩)
/-! function 3 -/
def es3 : List (FuncId × Ent × List (List Bool)) := [(6, ent6, [[true]]), (8, ent8, [[true]]), (9, ent9, []), (10, ent10, [[true]]), (7, awakeE, [])]
theorem ck3 (n : Nat) : CallKOk (ckOfM es3) (evF tab (n + 20)) :=
  ckOfM_cons (ok6 (n + 19)) (ckOfM_cons (ok8 (n + 17)) (ckOfM_cons (ok9 (n + 16)) (ckOfM_cons (ok10 (n + 16)) (ckOfM_cons (ok7 (n + 0)) (ckOfM_nil)))))
def kc3 : KC := (.seq (.reg r3_0) (.seq (.seq (.reg r3_1) (.cond (.t 5) (.seq (.reg r3_2) (.seq (.kill [0, 1, 5]) .ret)) .skip)) (.seq (.reg r3_3) (.seq (.kill [0, 1, 5]) .ret))))
def ain3 : List APat := [⟨[(.ints .i64)], []⟩]
def aout3 : List RPat := [⟨.bool, [], []⟩]
def g3_0 (a0 : List Int) : Option (Nat × List Leaf) :=
  if (16 : Nat) ≤ List.length a0 then altK (g6 (0, [.l (List.take (16 : Nat) a0)])) [fun r => asB r (fun x1 r => asE r (cond (!x1) (altK (awakeL (0, [])) [fun r => asB r (fun x6 r => asE r (some (0, [.b (x6)])) none) none] none) (altK (g8 (0, [])) [fun r => asL r (fun x2 r => asE r (if (16 : Nat) ≤ List.length a0 then altK (g9 (0, [.l (x2), .l (List.take (16 : Nat) a0)])) [fun r => asL r (fun x3 r => asE r (if (16 : Nat) ≤ List.length a0 then altK (g10 (0, [.l (List.take (16 : Nat) a0)])) [fun r => asL r (fun x4 r => asE r (if List.length x3 = (16 : Nat) then if List.length x4 = (16 : Nat) then cond (Decidable.decide (x3 = x4)) (altK (awakeL (0, [])) [fun r => asB r (fun x5 r => asE r (some (0, [.b (x5)])) none) none] none) (some (0, [.b (Bool.false)])) else none else none) none) none] none else none) none) none] none else none) none) none] none)) none) none] none else none
def g3 (s : Nat × List Leaf) : Option (Nat × List Leaf) := match s.1 with
  | 0 => let r := s.2; asL r (fun a0 r => asE r (g3_0 a0) none) none
  | _ => none
def ent3 : Ent := ⟨ain3, aout3, g3⟩
def os3 : List (Orc × List (List Bool)) := []
theorem ok3 (n : Nat) : EntSound (evF tab (n + 21)) 3 ent3 :=
  fn_sound (n := n + 20) (ck3 n) (OK := okOfM os3) (body := kc3) (show OrcsOk (okOfM os3) (evF tab (n + 20)) kc3 from ⟨trivial, ⟨⟨trivial, ⟨⟨trivial, ⟨trivial, trivial⟩⟩, trivial⟩⟩, ⟨trivial, ⟨trivial, trivial⟩⟩⟩⟩) t3 (by kernel_rfl)
    (all_ins (Q := fun i sh => ∀ ls, fillA sh ls (fun args h => fnK (ckOfM es3) (okOfM os3) sf3 kc3 args h (findRes aout3 0) none) none = g3 (i, ls)) (l := ain3) ⟨fun ls => by kernel_rfl, trivial⟩)
/-! function 4 -/
def es4 : List (FuncId × Ent × List (List Bool)) := [(6, ent6, [[true]]), (8, ent8, [[true]]), (9, ent9, []), (7, awakeE, [])]
theorem ck4 (n : Nat) : CallKOk (ckOfM es4) (evF tab (n + 20)) :=
  ckOfM_cons (ok6 (n + 19)) (ckOfM_cons (ok8 (n + 17)) (ckOfM_cons (ok9 (n + 16)) (ckOfM_cons (ok7 (n + 0)) (ckOfM_nil))))
def kc4 : KC := (.seq (.reg r4_0) (.seq (.seq (.reg r4_1) (.cond (.t 13) (.seq (.reg r4_2) (.seq (.kill [0, 1, 2, 3, 5, 13]) .ret)) .skip)) (.seq (.reg r4_3) (.seq (.reg r4_4) (.seq (.kill [0, 1, 2, 3, 5, 13]) .ret)))))
def ain4 : List APat := [⟨[(.ints .i64), (.ints .i64)], []⟩]
def aout4 : List RPat := [⟨.bool, [], []⟩]
def g4_0 (a0 : List Int) (a1 : List Int) : Option (Nat × List Leaf) :=
  if (16 : Nat) ≤ List.length a0 then altK (g6 (0, [.l (List.take (16 : Nat) a0)])) [fun r => asB r (fun x1 r => asE r (cond (!x1) (altK (awakeL (0, [])) [fun r => asB r (fun x8 r => asE r (some (0, [.b (x8)])) none) none] none) (if (16 : Nat) ≤ List.length a1 then altK (g6 (0, [.l (List.take (16 : Nat) a1)])) [fun r => asB r (fun x2 r => asE r (cond (!x2) (altK (awakeL (0, [])) [fun r => asB r (fun x7 r => asE r (some (0, [.b (x7)])) none) none] none) (altK (g8 (0, [])) [fun r => asL r (fun x3 r => asE r (if List.length x3 = (16 : Nat) then if (0 : Nat) + List.length x3 ≤ (16 : Nat) then if (16 : Nat) ≤ List.length (x3 ++ List.drop ((0 : Nat) + List.length x3) [(0 : Int), (0 : Int), (0 : Int), (0 : Int), (0 : Int), (0 : Int), (0 : Int), (0 : Int), (0 : Int), (0 : Int), (0 : Int), (0 : Int), (0 : Int), (0 : Int), (0 : Int), (0 : Int)]) then if (16 : Nat) ≤ List.length a0 then altK (g9 (0, [.l (List.take (16 : Nat) (x3 ++ List.drop ((0 : Nat) + List.length x3) [(0 : Int), (0 : Int), (0 : Int), (0 : Int), (0 : Int), (0 : Int), (0 : Int), (0 : Int), (0 : Int), (0 : Int), (0 : Int), (0 : Int), (0 : Int), (0 : Int), (0 : Int), (0 : Int)])), .l (List.take (16 : Nat) a0)])) [fun r => asL r (fun x4 r => asE r (if (16 : Nat) ≤ List.length (x3 ++ List.drop ((0 : Nat) + List.length x3) [(0 : Int), (0 : Int), (0 : Int), (0 : Int), (0 : Int), (0 : Int), (0 : Int), (0 : Int), (0 : Int), (0 : Int), (0 : Int), (0 : Int), (0 : Int), (0 : Int), (0 : Int), (0 : Int)]) then if (16 : Nat) ≤ List.length a1 then altK (g9 (0, [.l (List.take (16 : Nat) (x3 ++ List.drop ((0 : Nat) + List.length x3) [(0 : Int), (0 : Int), (0 : Int), (0 : Int), (0 : Int), (0 : Int), (0 : Int), (0 : Int), (0 : Int), (0 : Int), (0 : Int), (0 : Int), (0 : Int), (0 : Int), (0 : Int), (0 : Int)])), .l (List.take (16 : Nat) a1)])) [fun r => asL r (fun x5 r => asE r (if List.length x4 = (16 : Nat) then if List.length x5 = (16 : Nat) then if (16 : Nat) ≤ List.length a0 then if (16 : Nat) ≤ List.length a1 then if List.length (List.take (16 : Nat) a0) = (16 : Nat) then if List.length (List.take (16 : Nat) a1) = (16 : Nat) then cond (Decidable.decide (Decidable.decide (x4 = x5) = Decidable.decide (List.take (16 : Nat) a0 = List.take (16 : Nat) a1))) (altK (awakeL (0, [])) [fun r => asB r (fun x6 r => asE r (some (0, [.b (x6)])) none) none] none) (some (0, [.b (Bool.false)])) else none else none else none else none else none else none) none) none] none else none else none) none) none] none else none else none else none else none) none) none] none)) none) none] none else none)) none) none] none else none
def g4 (s : Nat × List Leaf) : Option (Nat × List Leaf) := match s.1 with
  | 0 => let r := s.2; asL r (fun a0 r => asL r (fun a1 r => asE r (g4_0 a0 a1) none) none) none
  | _ => none
def ent4 : Ent := ⟨ain4, aout4, g4⟩
def os4 : List (Orc × List (List Bool)) := []
theorem ok4 (n : Nat) : EntSound (evF tab (n + 21)) 4 ent4 :=
  fn_sound (n := n + 20) (ck4 n) (OK := okOfM os4) (body := kc4) (show OrcsOk (okOfM os4) (evF tab (n + 20)) kc4 from ⟨trivial, ⟨⟨trivial, ⟨⟨trivial, ⟨trivial, trivial⟩⟩, trivial⟩⟩, ⟨trivial, ⟨trivial, ⟨trivial, trivial⟩⟩⟩⟩⟩) t4 (by kernel_rfl)
    (all_ins (Q := fun i sh => ∀ ls, fillA sh ls (fun args h => fnK (ckOfM es4) (okOfM os4) sf4 kc4 args h (findRes aout4 0) none) none = g4 (i, ls)) (l := ain4) ⟨fun ls => by kernel_rfl, trivial⟩)
/-! function 5 -/
def es5 : List (FuncId × Ent × List (List Bool)) := [(6, ent6, [[true]]), (7, awakeE, []), (11, ent11, [[true]]), (8, ent8, [[true]]), (9, ent9, [])]
theorem ck5 (n : Nat) : CallKOk (ckOfM es5) (evF tab (n + 20)) :=
  ckOfM_cons (ok6 (n + 19)) (ckOfM_cons (ok7 (n + 0)) (ckOfM_cons (ok11 (n + 19)) (ckOfM_cons (ok8 (n + 17)) (ckOfM_cons (ok9 (n + 16)) (ckOfM_nil)))))
def kc5_0 : KC := (.seq (.seq (.seq (.reg r5_5) (.cond (.t 13) .skip (.seq (.kill [0, 2, 4, 5, 6, 7, 10, 13, 20, 29, 40, 45, 60]) (.exit 0)))) (.seq (.block 1 (.seq (.seq (.reg r5_6) (.cond (.t 20) (.reg r5_7) .skip)) (.seq (.reg r5_8) (.cond (.t 29) (.reg r5_9) .skip)))) (.reg r5_10))) (.kill [0, 2, 5, 6, 7, 10, 13, 20, 29, 40, 45, 60]))
def in5_0 : List SPat := [⟨[(0, .unk), (1, (.ptr 0 (.c 0))), (2, .unk), (3, (.int .i64)), (4, (.int .i64)), (5, .unk), (6, .unk), (7, .unk), (10, .unk), (13, .unk), (20, .unk), (29, .unk), (40, .unk), (45, .unk), (60, .unk)], [(true, (.ints .i64))], [], 0⟩]
def out5_0 : List (SX × SPat) := [((.exit 0), ⟨[(0, .unk), (1, (.ptr 0 (.c 0))), (2, .unk), (3, (.int .i64)), (4, .unk), (5, .unk), (6, .unk), (7, .unk), (10, .unk), (13, .unk), (20, .unk), (29, .unk), (40, .unk), (45, .unk), (60, .unk)], [(true, (.ints .i64))], [], 0⟩)]
def f5_0_0 (t3 : Int) (t4 : Int) (h0 : List Int) : Option (Nat × List Leaf) :=
  cond (Decidable.decide (t4 < (16 : Int))) (if (0 : Int) ≤ t4 ∧ t4 < (16 : Int) then optK (h0[Int.toNat t4]?) (fun x1 => cond (Decidable.decide (t3 < x1)) (if (0 : Int) ≤ t4 ∧ t4 < (16 : Int) then optK (h0[Int.toNat t4]?) (fun x4 => if (0 : Int) ≤ t4 ∧ t4 < (16 : Int) then optK (h0[Int.toNat t4]?) (fun x5 => cond (Decidable.decide (x4 < Go.IntKind.wrap Go.IntKind.i64 ((0 : Int) - x5))) (if (0 : Int) ≤ t4 ∧ t4 < (16 : Int) then optK (h0[Int.toNat t4]?) (fun x6 => some (0, [.i (Go.IntKind.wrap Go.IntKind.i64 ((0 : Int) - x6)), .i (Go.IntKind.wrap Go.IntKind.i64 (t4 + (1 : Int))), .l (h0)])) (none) else none) (some (0, [.i (x4), .i (Go.IntKind.wrap Go.IntKind.i64 (t4 + (1 : Int))), .l (h0)]))) (none) else none) (none) else none) (if (0 : Int) ≤ t4 ∧ t4 < (16 : Int) then optK (h0[Int.toNat t4]?) (fun x2 => cond (Decidable.decide (t3 < Go.IntKind.wrap Go.IntKind.i64 ((0 : Int) - x2))) (if (0 : Int) ≤ t4 ∧ t4 < (16 : Int) then optK (h0[Int.toNat t4]?) (fun x3 => some (0, [.i (Go.IntKind.wrap Go.IntKind.i64 ((0 : Int) - x3)), .i (Go.IntKind.wrap Go.IntKind.i64 (t4 + (1 : Int))), .l (h0)])) (none) else none) (some (0, [.i (t3), .i (Go.IntKind.wrap Go.IntKind.i64 (t4 + (1 : Int))), .l (h0)]))) (none) else none)) (none) else none) (some (1, [.i (t3), .l (h0)]))
def f5_0 (s : Nat × List Leaf) : Option (Nat × List Leaf) := match s.1 with
  | 0 => let r := s.2; asI r (fun t3 r => asI r (fun t4 r => asL r (fun h0 r => asE r (f5_0_0 t3 t4 h0) none) none) none) none
  | _ => none
def L5_0 (s : Nat × List Leaf) : Option (Nat × List Leaf) := loopL 1 f5_0 s
def orc5_0 : Orc := ⟨in5_0, out5_0, L5_0⟩
def os5_0 : List (Orc × List (List Bool)) := []
theorem snd5_0 (n : Nat) : OrcSound (evF tab (n + 20)) (.loop l5_11) orc5_0 :=
  loop_sound (b := kc5_0) (OK := okOfM os5_0) (ck5 n) (show OrcsOk (okOfM os5_0) (evF tab (n + 20)) kc5_0 from ⟨⟨⟨trivial, ⟨trivial, ⟨trivial, trivial⟩⟩⟩, ⟨⟨⟨trivial, ⟨trivial, trivial⟩⟩, ⟨trivial, ⟨trivial, trivial⟩⟩⟩, trivial⟩⟩, trivial⟩) (ins := in5_0) (outs := out5_0) (f := f5_0) (by kernel_rfl)
    (all_ins (Q := fun i sh => ∀ ls, fillS sh ls (fun st => evK (ckOfM es5) (okOfM os5_0) kc5_0 st (findOut (in5_0.map (SX.normal, ·) ++ out5_0) 0) none) none = f5_0 (i, ls)) (l := in5_0) ⟨fun ls => by kernel_rfl, trivial⟩)
def kc5_1 : KC := (.seq (.seq (.seq (.reg r5_17) (.cond (.t 45) .skip (.seq (.kill [0, 1, 2, 3, 4, 5, 6, 7, 10, 13, 20, 29, 40, 45, 60]) (.exit 2)))) (.seq (.block 3 (.seq (.reg r5_18) (.cond (.t 60) (.seq (.reg r5_19) (.seq (.kill [0, 1, 3, 4, 5, 6, 7, 10, 13, 20, 29, 40, 45, 60]) .ret)) .skip))) (.reg r5_20))) (.kill [0, 1, 2, 3, 4, 10, 13, 20, 29, 40, 45, 60]))
def in5_1 : List SPat := [⟨[(0, .unk), (1, .unk), (2, .unk), (3, .unk), (4, .unk), (5, (.int .i64)), (6, (.ptr 1 (.c 0))), (7, (.int .i64)), (10, .unk), (13, .unk), (20, .unk), (29, .unk), (40, .unk), (45, .unk), (60, .unk)], [(true, (.ints .i64)), (true, (.ints .i64))], [], 0⟩]
def out5_1 : List (SX × SPat) := [((.exit 2), ⟨[(0, .unk), (1, .unk), (2, .unk), (3, .unk), (4, .unk), (5, .unk), (6, .unk), (7, .unk), (10, .unk), (13, .unk), (20, .unk), (29, .unk), (40, .unk), (45, .unk), (60, .unk)], [(true, (.ints .i64)), (true, (.ints .i64))], [], 0⟩), (.ret, ⟨[(0, .unk), (1, .unk), (2, (.cbool false)), (3, .unk), (4, .unk), (5, .unk), (6, .unk), (7, .unk), (10, .unk), (13, .unk), (20, .unk), (29, .unk), (40, .unk), (45, .unk), (60, .unk)], [(true, (.ints .i64)), (true, (.ints .i64))], [], 0⟩)]
def f5_1_0 (t5 : Int) (t7 : Int) (h0 : List Int) (h1 : List Int) : Option (Nat × List Leaf) :=
  cond (Decidable.decide (t7 < (16 : Int))) (if (0 : Int) ≤ t7 ∧ t7 < (16 : Int) then optK (h1[Int.toNat t7]?) (fun x1 => cond (Decidable.decide (t5 < x1)) (some (2, [.l (h0), .l (h1)])) (if (0 : Int) ≤ t7 ∧ t7 < (16 : Int) then optK (h1[Int.toNat t7]?) (fun x2 => cond (Decidable.decide (x2 < Go.IntKind.wrap Go.IntKind.i64 ((0 : Int) - t5))) (some (2, [.l (h0), .l (h1)])) (some (0, [.i (t5), .i (Go.IntKind.wrap Go.IntKind.i64 (t7 + (1 : Int))), .l (h0), .l (h1)]))) (none) else none)) (none) else none) (some (1, [.l (h0), .l (h1)]))
def f5_1 (s : Nat × List Leaf) : Option (Nat × List Leaf) := match s.1 with
  | 0 => let r := s.2; asI r (fun t5 r => asI r (fun t7 r => asL r (fun h0 r => asL r (fun h1 r => asE r (f5_1_0 t5 t7 h0 h1) none) none) none) none) none
  | _ => none
def L5_1 (s : Nat × List Leaf) : Option (Nat × List Leaf) := loopL 1 f5_1 s
def orc5_1 : Orc := ⟨in5_1, out5_1, L5_1⟩
def os5_1 : List (Orc × List (List Bool)) := [(orc5_0, [[true]])]
theorem snd5_1 (n : Nat) : OrcSound (evF tab (n + 20)) (.loop l5_21) orc5_1 :=
  loop_sound (b := kc5_1) (OK := okOfM os5_1) (ck5 n) (show OrcsOk (okOfM os5_1) (evF tab (n + 20)) kc5_1 from ⟨⟨⟨trivial, ⟨trivial, ⟨trivial, trivial⟩⟩⟩, ⟨⟨trivial, ⟨⟨trivial, ⟨trivial, trivial⟩⟩, trivial⟩⟩, trivial⟩⟩, trivial⟩) (ins := in5_1) (outs := out5_1) (f := f5_1) (by kernel_rfl)
    (all_ins (Q := fun i sh => ∀ ls, fillS sh ls (fun st => evK (ckOfM es5) (okOfM os5_1) kc5_1 st (findOut (in5_1.map (SX.normal, ·) ++ out5_1) 0) none) none = f5_1 (i, ls)) (l := in5_1) ⟨fun ls => by kernel_rfl, trivial⟩)
def kc5 : KC := (.seq (.reg r5_0) (.seq (.seq (.reg r5_1) (.cond (.t 10) (.seq (.reg r5_2) (.seq (.kill [0, 1, 3, 4, 5, 6, 7, 10, 13, 20, 29, 40, 45, 60]) .ret)) .skip)) (.seq (.reg r5_3) (.seq (.seq (.reg r5_4) (.block 0 (.seq (.kill [0, 2, 5, 6, 7, 10, 13, 20, 29, 40, 45, 60]) (.orc 0 (.loop l5_11))))) (.seq (.reg r5_12) (.seq (.seq (.reg r5_13) (.cond (.t 40) (.seq (.reg r5_14) (.seq (.kill [0, 1, 3, 4, 5, 6, 7, 10, 13, 20, 29, 40, 45, 60]) .ret)) .skip)) (.seq (.reg r5_15) (.seq (.seq (.reg r5_16) (.block 2 (.seq (.kill [0, 1, 2, 3, 4, 10, 13, 20, 29, 40, 45, 60]) (.orc 1 (.loop l5_21))))) (.seq (.reg r5_22) (.seq (.kill [0, 1, 3, 4, 5, 6, 7, 10, 13, 20, 29, 40, 45, 60]) .ret))))))))))
def ain5 : List APat := [⟨[(.ints .i64)], []⟩]
def aout5 : List RPat := [⟨.bool, [], []⟩]
def g5_0 (a0 : List Int) : Option (Nat × List Leaf) :=
  if (16 : Nat) ≤ List.length a0 then altK (g6 (0, [.l (List.take (16 : Nat) a0)])) [fun r => asB r (fun x1 r => asE r (cond (!x1) (altK (awakeL (0, [])) [fun r => asB r (fun x54 r => asE r (some (0, [.b (x54)])) none) none] none) (altK (L5_0 (0, [.i ((0 : Int)), .i ((0 : Int)), .l (a0)])) [fun r => asI r (fun x5 r => asL r (fun x17h0 r => asE r (altK (g11 (0, [.i (x5)])) [fun r => asI r (fun x18 r => asE r (cond (Decidable.decide (x18 ≠ Go.IntKind.wrap Go.IntKind.i64 (Go.IntKind.wrap Go.IntKind.i64 ((81 : Int) * x5) + (160 : Int)))) (some (0, [.b (Bool.false)])) (altK (g8 (0, [])) [fun r => asL r (fun x19 r => asE r (if (16 : Nat) ≤ List.length x17h0 then altK (g9 (0, [.l (x19), .l (List.take (16 : Nat) x17h0)])) [fun r => asL r (fun x20 r => asE r (if List.length x20 = (16 : Nat) then if (0 : Nat) + List.length x20 ≤ (16 : Nat) then altK (L5_1 (0, [.i (Go.IntKind.wrap Go.IntKind.i64 (Go.IntKind.wrap Go.IntKind.i64 ((81 : Int) * x5) + (160 : Int))), .i ((0 : Int)), .l (x17h0), .l (x20 ++ List.drop ((0 : Nat) + List.length x20) [(0 : Int), (0 : Int), (0 : Int), (0 : Int), (0 : Int), (0 : Int), (0 : Int), (0 : Int), (0 : Int), (0 : Int), (0 : Int), (0 : Int), (0 : Int), (0 : Int), (0 : Int), (0 : Int)])])) [fun r => asL r (fun x36h0 r => asL r (fun x36h1 r => asE r (altK (awakeL (0, [])) [fun r => asB r (fun x37 r => asE r (some (0, [.b (x37)])) none) none] none) none) none) none, fun r => asL r (fun x53h0 r => asL r (fun x53h1 r => asE r (some (0, [.b (Bool.false)])) none) none) none] none else none else none) none) none] none else none) none) none] none)) none) none] none) none) none) none] none)) none) none] none else none
def g5 (s : Nat × List Leaf) : Option (Nat × List Leaf) := match s.1 with
  | 0 => let r := s.2; asL r (fun a0 r => asE r (g5_0 a0) none) none
  | _ => none
def ent5 : Ent := ⟨ain5, aout5, g5⟩
def os5 : List (Orc × List (List Bool)) := [(orc5_0, [[true]]), (orc5_1, [[true, true]])]
theorem ok5 (n : Nat) : EntSound (evF tab (n + 21)) 5 ent5 :=
  fn_sound (n := n + 20) (ck5 n) (OK := okOfM os5) (body := kc5) (show OrcsOk (okOfM os5) (evF tab (n + 20)) kc5 from ⟨trivial, ⟨⟨trivial, ⟨⟨trivial, ⟨trivial, trivial⟩⟩, trivial⟩⟩, ⟨trivial, ⟨⟨trivial, ⟨trivial, (okOfM_ok (os := os5) (i := 0) (o := orc5_0) rfl (snd5_0 n))⟩⟩, ⟨trivial, ⟨⟨trivial, ⟨⟨trivial, ⟨trivial, trivial⟩⟩, trivial⟩⟩, ⟨trivial, ⟨⟨trivial, ⟨trivial, (okOfM_ok (os := os5) (i := 1) (o := orc5_1) rfl (snd5_1 n))⟩⟩, ⟨trivial, ⟨trivial, trivial⟩⟩⟩⟩⟩⟩⟩⟩⟩⟩) t5 (by kernel_rfl)
    (all_ins (Q := fun i sh => ∀ ls, fillA sh ls (fun args h => fnK (ckOfM es5) (okOfM os5) sf5 kc5 args h (findRes aout5 0) none) none = g5 (i, ls)) (l := ain5) ⟨fun ls => by kernel_rfl, trivial⟩)
end Go.Proofs.Ytbamcklflcikoaa.A
