/-
  Functions of this seat as functions of leaves, by program, and that the abstract machine answers as they do. Conditions: none.
-/
import Derived.Test.YtgjmlenokdggoaaTab
import Derived.Test.YtgjmlenokdggoaaSxW
import Derived.KernelRfl
namespace Go.Proofs.Ytgjmlenokdggoaa.P
open Go Go.Sx
set_option maxRecDepth 100000
set_option linter.unusedVariables false
/-! function 16 -/
def es16 : List (FuncId × Ent × List (List Bool)) := []
theorem ck16 (n : Nat) : CallKOk (ckOfM es16) (evF tab (n + 0)) :=
  ckOfM_nil
def kc16 : KC := (.seq (.reg r16_0) (.seq (.block 0 (.seq (.reg r16_1) (.cond (.t 7) (.seq (.reg r16_2) (.seq (.kill [0, 1, 2, 7, 17]) .ret)) (.seq (.reg r16_3) (.cond (.t 17) (.seq (.reg r16_4) (.seq (.kill [0, 1, 2, 7, 17]) .ret)) .skip))))) (.seq (.reg r16_5) (.seq (.kill [0, 1, 2, 7, 17]) .ret))))
def ain16 : List APat := [⟨[(.int .i64), (.int .i64), (.int .i64)], []⟩]
def aout16 : List RPat := [⟨(.int .i64), [], []⟩]
def g16_0 (a0 : Int) (a1 : Int) (a2 : Int) : Option (Nat × List Leaf) :=
  cond (Decidable.decide (a0 < a1)) (some (0, [.i (a1)])) (cond (Decidable.decide (a2 < a1)) (some (0, [.i (a1)])) (cond (Decidable.decide (a2 < a0)) (some (0, [.i (a2)])) (some (0, [.i (a0)]))))
def g16 (s : Nat × List Leaf) : Option (Nat × List Leaf) := match s.1 with
  | 0 => let r := s.2; asI r (fun a0 r => asI r (fun a1 r => asI r (fun a2 r => asE r (g16_0 a0 a1 a2) none) none) none) none
  | _ => none
def ent16 : Ent := ⟨ain16, aout16, g16⟩
def os16 : List (Orc × List (List Bool)) := []
theorem ok16 (n : Nat) : EntSound (evF tab (n + 1)) 16 ent16 :=
  fn_sound (n := n + 0) (ck16 n) (OK := okOfM os16) (body := kc16) (show OrcsOk (okOfM os16) (evF tab (n + 0)) kc16 from ⟨trivial, ⟨⟨trivial, ⟨⟨trivial, ⟨trivial, trivial⟩⟩, ⟨trivial, ⟨⟨trivial, ⟨trivial, trivial⟩⟩, trivial⟩⟩⟩⟩, ⟨trivial, ⟨trivial, trivial⟩⟩⟩⟩) t16 (by kernel_rfl)
    (all_ins (Q := fun i sh => ∀ ls, fillA sh ls (fun args h => fnK (ckOfM es16) (okOfM os16) sf16 kc16 args h (findRes aout16 0) none) none = g16 (i, ls)) (l := ain16) ⟨fun ls => by kernel_rfl, trivial⟩)
/-! function 17 -/
def es17 : List (FuncId × Ent × List (List Bool)) := [(16, ent16, [[true]])]
theorem ck17 (n : Nat) : CallKOk (ckOfM es17) (evF tab (n + 1)) :=
  ckOfM_cons (ok16 (n + 0)) (ckOfM_nil)
def kc17 : KC := (.seq (.reg r17_0) (.seq (.reg r17_1) (.seq (.kill [0]) .ret)))
def ain17 : List APat := [⟨[(.int .i64)], []⟩]
def aout17 : List RPat := [⟨(.int .i64), [], []⟩]
def g17_0 (a0 : Int) : Option (Nat × List Leaf) :=
  altK (g16 (0, [.i (a0), .i ((-32768 : Int)), .i ((32767 : Int))])) [fun r => asI r (fun x1 r => asE r (some (0, [.i (x1)])) none) none] none
def g17 (s : Nat × List Leaf) : Option (Nat × List Leaf) := match s.1 with
  | 0 => let r := s.2; asI r (fun a0 r => asE r (g17_0 a0) none) none
  | _ => none
def ent17 : Ent := ⟨ain17, aout17, g17⟩
def os17 : List (Orc × List (List Bool)) := []
theorem ok17 (n : Nat) : EntSound (evF tab (n + 2)) 17 ent17 :=
  fn_sound (n := n + 1) (ck17 n) (OK := okOfM os17) (body := kc17) (show OrcsOk (okOfM os17) (evF tab (n + 1)) kc17 from ⟨trivial, ⟨trivial, ⟨trivial, trivial⟩⟩⟩) t17 (by kernel_rfl)
    (all_ins (Q := fun i sh => ∀ ls, fillA sh ls (fun args h => fnK (ckOfM es17) (okOfM os17) sf17 kc17 args h (findRes aout17 0) none) none = g17 (i, ls)) (l := ain17) ⟨fun ls => by kernel_rfl, trivial⟩)
/-! function 18 -/
def es18 : List (FuncId × Ent × List (List Bool)) := []
theorem ck18 (n : Nat) : CallKOk (ckOfM es18) (evF tab (n + 0)) :=
  ckOfM_nil
def kc18 : KC := (.seq (.reg r18_0) (.seq (.block 0 (.seq (.reg r18_1) (.cond (.t 5) (.seq (.reg r18_2) (.seq (.kill [0, 1, 5, 12]) .ret)) (.seq (.reg r18_3) (.cond (.t 12) (.seq (.reg r18_4) (.seq (.kill [0, 1, 5, 12]) .ret)) .skip))))) (.seq (.reg r18_5) (.seq (.kill [0, 1, 5, 12]) .ret))))
def ain18 : List APat := [⟨[(.int .i64), (.int .i64)], []⟩]
def aout18 : List RPat := [⟨(.int .i64), [], []⟩]
def g18_0 (a0 : Int) (a1 : Int) : Option (Nat × List Leaf) :=
  cond (Decidable.decide (a1 < (0 : Int))) (some (0, [.i ((0 : Int))])) (cond (Decidable.decide ((62 : Int) < a1)) (some (0, [.i ((0 : Int))])) (cond (Decidable.decide (a1 = (0 : Int))) (some (0, [.i (a0)])) (if a1 < (0 : Int) then none else if Go.IntKind.wrap Go.IntKind.i64 (a1 - (1 : Int)) < (0 : Int) then none else some (0, [.i (Go.IntKind.wrap Go.IntKind.i64 (Go.Sx.shrI Go.IntKind.i64 a0 a1 + Go.Sx.bAnd Go.IntKind.i64 (Go.Sx.shrI Go.IntKind.i64 a0 (Go.IntKind.wrap Go.IntKind.i64 (a1 - (1 : Int)))) (1 : Int)))]))))
def g18 (s : Nat × List Leaf) : Option (Nat × List Leaf) := match s.1 with
  | 0 => let r := s.2; asI r (fun a0 r => asI r (fun a1 r => asE r (g18_0 a0 a1) none) none) none
  | _ => none
def ent18 : Ent := ⟨ain18, aout18, g18⟩
def os18 : List (Orc × List (List Bool)) := []
theorem ok18 (n : Nat) : EntSound (evF tab (n + 1)) 18 ent18 :=
  fn_sound (n := n + 0) (ck18 n) (OK := okOfM os18) (body := kc18) (show OrcsOk (okOfM os18) (evF tab (n + 0)) kc18 from ⟨trivial, ⟨⟨trivial, ⟨⟨trivial, ⟨trivial, trivial⟩⟩, ⟨trivial, ⟨⟨trivial, ⟨trivial, trivial⟩⟩, trivial⟩⟩⟩⟩, ⟨trivial, ⟨trivial, trivial⟩⟩⟩⟩) t18 (by kernel_rfl)
    (all_ins (Q := fun i sh => ∀ ls, fillA sh ls (fun args h => fnK (ckOfM es18) (okOfM os18) sf18 kc18 args h (findRes aout18 0) none) none = g18 (i, ls)) (l := ain18) ⟨fun ls => by kernel_rfl, trivial⟩)
/-! function 6 -/
def es6 : List (FuncId × Ent × List (List Bool)) := []
theorem ck6 (n : Nat) : CallKOk (ckOfM es6) (evF tab (n + 0)) :=
  ckOfM_nil
def kc6_0 : KC := (.seq (.seq (.reg r6_2) (.seq (.cond (.t 17) .skip (.seq (.kill [0, 1, 2, 4, 15, 16, 17, 24]) (.exit 0))) (.seq (.block 1 (.seq (.reg r6_3) (.seq (.reg r6_4) (.cond (.t 24) (.seq (.reg r6_5) (.seq (.kill [0, 1, 4, 15, 16, 17, 24]) .ret)) .skip)))) (.reg r6_6)))) (.kill [0, 1, 2, 4, 17, 24]))
def in6_0 : List SPat := [⟨[(0, .unk), (1, .unk), (2, .unk), (4, .unk), (15, (.intsE .i64 5)), (16, (.int .i64)), (17, .unk), (24, .unk)], [(true, (.ints .i64))], [], 0⟩]
def out6_0 : List (SX × SPat) := [((.exit 0), ⟨[(0, .unk), (1, .unk), (2, .unk), (4, .unk), (15, .unk), (16, .unk), (17, .unk), (24, .unk)], [(true, (.ints .i64))], [], 0⟩), (.ret, ⟨[(0, .unk), (1, .unk), (2, (.cbool false)), (4, .unk), (15, .unk), (16, .unk), (17, .unk), (24, .unk)], [(true, (.ints .i64))], [], 0⟩)]
def f6_0_0 (t15_0 : Int) (t15_1 : Int) (t15_2 : Int) (t15_3 : Int) (t15_4 : Int) (t16 : Int) (h0 : List Int) : Option (Nat × List Leaf) :=
  cond (Decidable.decide (t16 < (5 : Int))) (if (0 : Int) ≤ t16 ∧ t16 < (5 : Int) then optK ([t15_0, t15_1, t15_2, t15_3, t15_4][Int.toNat t16]?) (fun x1 => cond (Decidable.decide (x1 < (-32768 : Int))) (some (2, [.l (h0)])) (cond (Decidable.decide ((32768 : Int) < x1)) (some (2, [.l (h0)])) (some (0, [.i (t15_0), .i (t15_1), .i (t15_2), .i (t15_3), .i (t15_4), .i (Go.IntKind.wrap Go.IntKind.i64 (t16 + (1 : Int))), .l (h0)])))) (none) else none) (some (1, [.l (h0)]))
def f6_0 (s : Nat × List Leaf) : Option (Nat × List Leaf) := match s.1 with
  | 0 => let r := s.2; asI r (fun t15_0 r => asI r (fun t15_1 r => asI r (fun t15_2 r => asI r (fun t15_3 r => asI r (fun t15_4 r => asI r (fun t16 r => asL r (fun h0 r => asE r (f6_0_0 t15_0 t15_1 t15_2 t15_3 t15_4 t16 h0) none) none) none) none) none) none) none) none
  | _ => none
def L6_0 (s : Nat × List Leaf) : Option (Nat × List Leaf) := loopL 1 f6_0 s
def orc6_0 : Orc := ⟨in6_0, out6_0, L6_0⟩
def os6_0 : List (Orc × List (List Bool)) := []
theorem snd6_0 (n : Nat) : OrcSound (evF tab (n + 0)) (.loop l6_7) orc6_0 :=
  loop_sound (b := kc6_0) (OK := okOfM os6_0) (ck6 n) (show OrcsOk (okOfM os6_0) (evF tab (n + 0)) kc6_0 from ⟨⟨trivial, ⟨⟨trivial, ⟨trivial, trivial⟩⟩, ⟨⟨trivial, ⟨trivial, ⟨⟨trivial, ⟨trivial, trivial⟩⟩, trivial⟩⟩⟩, trivial⟩⟩⟩, trivial⟩) (ins := in6_0) (outs := out6_0) (f := f6_0) (by kernel_rfl)
    (all_ins (Q := fun i sh => ∀ ls, fillS sh ls (fun st => evK (ckOfM es6) (okOfM os6_0) kc6_0 st (findOut (in6_0.map (SX.normal, ·) ++ out6_0) 0) none) none = f6_0 (i, ls)) (l := in6_0) ⟨fun ls => by kernel_rfl, trivial⟩)
def kc6 : KC := (.seq (.reg r6_0) (.seq (.seq (.reg r6_1) (.block 0 (.seq (.kill [0, 1, 2, 4, 17, 24]) (.orc 0 (.loop l6_7))))) (.seq (.reg r6_8) (.seq (.kill [0, 1, 4, 15, 16, 17, 24]) .ret))))
def ain6 : List APat := [⟨[(.ints .i64)], []⟩]
def aout6 : List RPat := [⟨.bool, [], []⟩]
def g6_0 (a0 : List Int) : Option (Nat × List Leaf) :=
  optK (a0[(0 : Nat)]?) (fun x1 => optK (a0[(1 : Nat)]?) (fun x2 => optK (a0[(2 : Nat)]?) (fun x3 => optK (a0[(3 : Nat)]?) (fun x4 => optK (a0[(4 : Nat)]?) (fun x5 => altK (L6_0 (0, [.i (x1), .i (x2), .i (x3), .i (x4), .i (x5), .i ((0 : Int)), .l (a0)])) [fun r => asL r (fun x14h0 r => asE r (some (0, [.b (Bool.true)])) none) none, fun r => asL r (fun x23h0 r => asE r (some (0, [.b (Bool.false)])) none) none] none) (none)) (none)) (none)) (none)) (none)
def g6 (s : Nat × List Leaf) : Option (Nat × List Leaf) := match s.1 with
  | 0 => let r := s.2; asL r (fun a0 r => asE r (g6_0 a0) none) none
  | _ => none
def ent6 : Ent := ⟨ain6, aout6, g6⟩
def os6 : List (Orc × List (List Bool)) := [(orc6_0, [[true, true]])]
theorem ok6 (n : Nat) : EntSound (evF tab (n + 1)) 6 ent6 :=
  fn_sound (n := n + 0) (ck6 n) (OK := okOfM os6) (body := kc6) (show OrcsOk (okOfM os6) (evF tab (n + 0)) kc6 from ⟨trivial, ⟨⟨trivial, ⟨trivial, (okOfM_ok (os := os6) (i := 0) (o := orc6_0) rfl (snd6_0 n))⟩⟩, ⟨trivial, ⟨trivial, trivial⟩⟩⟩⟩) t6 (by kernel_rfl)
    (all_ins (Q := fun i sh => ∀ ls, fillA sh ls (fun args h => fnK (ckOfM es6) (okOfM os6) sf6 kc6 args h (findRes aout6 0) none) none = g6 (i, ls)) (l := ain6) ⟨fun ls => by kernel_rfl, trivial⟩)
/-! function 5 -/
def es5 : List (FuncId × Ent × List (List Bool)) := [(6, ent6, [[true]])]
theorem ck5 (n : Nat) : CallKOk (ckOfM es5) (evF tab (n + 1)) :=
  ckOfM_cons (ok6 (n + 0)) (ckOfM_nil)
def kc5 : KC := (.seq (.reg r5_0) (.seq (.seq (.reg r5_1) (.cond (.t 6) (.seq (.reg r5_2) (.seq (.kill [0, 1, 6]) .ret)) .skip)) (.seq (.reg r5_3) (.seq (.kill [0, 1, 6]) .ret))))
def ain5 : List APat := [⟨[(.ints .i64)], []⟩]
def aout5 : List RPat := [⟨(.tup [(.ptr 0 (.c 0)), (.cint .i64 (0))]), [(true, (.ints .i64))], []⟩, ⟨(.tup [.nilp, (.cint .i64 (1))]), [], []⟩]
def g5_0 (a0 : List Int) : Option (Nat × List Leaf) :=
  if (5 : Nat) ≤ List.length a0 then altK (g6 (0, [.l (List.take (5 : Nat) a0)])) [fun r => asB r (fun x1 r => asE r (cond (!x1) (some (1, [])) (if (5 : Nat) ≤ List.length a0 then if List.length (List.take (5 : Nat) a0) = (5 : Nat) then if (0 : Nat) + List.length (List.take (5 : Nat) a0) ≤ (9 : Nat) then some (0, [.l (List.take (5 : Nat) a0 ++ List.drop ((0 : Nat) + List.length (List.take (5 : Nat) a0)) [(0 : Int), (0 : Int), (0 : Int), (0 : Int), (0 : Int), (0 : Int), (0 : Int), (0 : Int), (0 : Int)])]) else none else none else none)) none) none] none else none
def g5 (s : Nat × List Leaf) : Option (Nat × List Leaf) := match s.1 with
  | 0 => let r := s.2; asL r (fun a0 r => asE r (g5_0 a0) none) none
  | _ => none
def ent5 : Ent := ⟨ain5, aout5, g5⟩
def os5 : List (Orc × List (List Bool)) := []
theorem ok5 (n : Nat) : EntSound (evF tab (n + 2)) 5 ent5 :=
  fn_sound (n := n + 1) (ck5 n) (OK := okOfM os5) (body := kc5) (show OrcsOk (okOfM os5) (evF tab (n + 1)) kc5 from ⟨trivial, ⟨⟨trivial, ⟨⟨trivial, ⟨trivial, trivial⟩⟩, trivial⟩⟩, ⟨trivial, ⟨trivial, trivial⟩⟩⟩⟩) t5 (by kernel_rfl)
    (all_ins (Q := fun i sh => ∀ ls, fillA sh ls (fun args h => fnK (ckOfM es5) (okOfM os5) sf5 kc5 args h (findRes aout5 0) none) none = g5 (i, ls)) (l := ain5) ⟨fun ls => by kernel_rfl, trivial⟩)
/-! function 10 -/
def es10 : List (FuncId × Ent × List (List Bool)) := [(16, ent16, [[true]]), (18, ent18, [[true]]), (17, ent17, [[true]])]
theorem ck10 (n : Nat) : CallKOk (ckOfM es10) (evF tab (n + 2)) :=
  ckOfM_cons (ok16 (n + 1)) (ckOfM_cons (ok18 (n + 1)) (ckOfM_cons (ok17 (n + 0)) (ckOfM_nil)))
def kc10 : KC := (.seq (.reg r10_0) (.seq (.seq (.reg r10_1) (.cond (.t 10) (.seq (.reg r10_2) (.seq (.kill [0, 1, 5, 6, 7, 8, 10]) .ret)) .skip)) (.seq (.reg r10_3) (.seq (.reg r10_4) (.seq (.reg r10_5) (.seq (.reg r10_6) (.seq (.reg r10_7) (.seq (.reg r10_8) (.seq (.reg r10_9) (.seq (.kill [0, 1, 5, 6, 7, 8, 10]) .ret))))))))))
def ain10 : List APat := [⟨[(.ptr 0 (.c 0)), (.int .i64)], [(true, (.ints .i64))]⟩, ⟨[.nilp, (.int .i64)], []⟩]
def aout10 : List RPat := [⟨(.int .i64), [(true, (.ints .i64))], []⟩, ⟨(.int .i64), [], []⟩]
def g10_0 (a1 : Int) (h0 : List Int) : Option (Nat × List Leaf) :=
  altK (g16 (0, [.i (a1), .i ((-32768 : Int)), .i ((32767 : Int))])) [fun r => asI r (fun x1 r => asE r (if (5 : Nat) ≤ List.length h0 then if List.length (List.take (5 : Nat) h0) = (5 : Nat) then if (0 : Nat) + List.length (List.take (5 : Nat) h0) ≤ (5 : Nat) then optK ((List.take (5 : Nat) h0 ++ List.drop ((0 : Nat) + List.length (List.take (5 : Nat) h0)) [(0 : Int), (0 : Int), (0 : Int), (0 : Int), (0 : Int)])[(0 : Nat)]?) (fun x2 => optK ((List.take (5 : Nat) h0 ++ List.drop ((0 : Nat) + List.length (List.take (5 : Nat) h0)) [(0 : Int), (0 : Int), (0 : Int), (0 : Int), (0 : Int)])[(1 : Nat)]?) (fun x3 => optK (h0[(5 : Nat)]?) (fun x4 => optK ((List.take (5 : Nat) h0 ++ List.drop ((0 : Nat) + List.length (List.take (5 : Nat) h0)) [(0 : Int), (0 : Int), (0 : Int), (0 : Int), (0 : Int)])[(2 : Nat)]?) (fun x5 => optK (h0[(6 : Nat)]?) (fun x6 => optK ((List.take (5 : Nat) h0 ++ List.drop ((0 : Nat) + List.length (List.take (5 : Nat) h0)) [(0 : Int), (0 : Int), (0 : Int), (0 : Int), (0 : Int)])[(3 : Nat)]?) (fun x7 => optK (h0[(7 : Nat)]?) (fun x8 => optK ((List.take (5 : Nat) h0 ++ List.drop ((0 : Nat) + List.length (List.take (5 : Nat) h0)) [(0 : Int), (0 : Int), (0 : Int), (0 : Int), (0 : Int)])[(4 : Nat)]?) (fun x9 => optK (h0[(8 : Nat)]?) (fun x10 => altK (g18 (0, [.i (Go.IntKind.wrap Go.IntKind.i64 (Go.IntKind.wrap Go.IntKind.i64 (Go.IntKind.wrap Go.IntKind.i64 (Go.IntKind.wrap Go.IntKind.i64 (Go.IntKind.wrap Go.IntKind.i64 (x2 * x1) + Go.IntKind.wrap Go.IntKind.i64 (x3 * x4)) + Go.IntKind.wrap Go.IntKind.i64 (x5 * x6)) + Go.IntKind.wrap Go.IntKind.i64 (x7 * x8)) + Go.IntKind.wrap Go.IntKind.i64 (x9 * x10))), .i ((14 : Int))])) [fun r => asI r (fun x11 r => asE r (altK (g17 (0, [.i (x11)])) [fun r => asI r (fun x12 r => asE r (optK (h0[(5 : Nat)]?) (fun x13 => if (6 : Nat) < List.length h0 then if (5 : Nat) < List.length (List.set h0 (6 : Nat) x13) then optK ((List.set (List.set h0 (6 : Nat) x13) (5 : Nat) x1)[(7 : Nat)]?) (fun x14 => if (8 : Nat) < List.length (List.set (List.set h0 (6 : Nat) x13) (5 : Nat) x1) then if (7 : Nat) < List.length (List.set (List.set (List.set h0 (6 : Nat) x13) (5 : Nat) x1) (8 : Nat) x14) then some (0, [.i (x12), .l (List.set (List.set (List.set (List.set h0 (6 : Nat) x13) (5 : Nat) x1) (8 : Nat) x14) (7 : Nat) x12)]) else none else none) (none) else none else none) (none)) none) none] none) none) none] none) (none)) (none)) (none)) (none)) (none)) (none)) (none)) (none)) (none) else none else none else none) none) none] none
def g10_1 (a1 : Int) : Option (Nat × List Leaf) :=
  some (1, [.i (a1)])
def g10 (s : Nat × List Leaf) : Option (Nat × List Leaf) := match s.1 with
  | 0 => let r := s.2; asI r (fun a1 r => asL r (fun h0 r => asE r (g10_0 a1 h0) none) none) none
  | 1 => let r := s.2; asI r (fun a1 r => asE r (g10_1 a1) none) none
  | _ => none
def ent10 : Ent := ⟨ain10, aout10, g10⟩
def os10 : List (Orc × List (List Bool)) := []
theorem ok10 (n : Nat) : EntSound (evF tab (n + 3)) 10 ent10 :=
  fn_sound (n := n + 2) (ck10 n) (OK := okOfM os10) (body := kc10) (show OrcsOk (okOfM os10) (evF tab (n + 2)) kc10 from ⟨trivial, ⟨⟨trivial, ⟨⟨trivial, ⟨trivial, trivial⟩⟩, trivial⟩⟩, ⟨trivial, ⟨trivial, ⟨trivial, ⟨trivial, ⟨trivial, ⟨trivial, ⟨trivial, ⟨trivial, trivial⟩⟩⟩⟩⟩⟩⟩⟩⟩⟩) t10 (by kernel_rfl)
    (all_ins (Q := fun i sh => ∀ ls, fillA sh ls (fun args h => fnK (ckOfM es10) (okOfM os10) sf10 kc10 args h (findRes aout10 0) none) none = g10 (i, ls)) (l := ain10) ⟨fun ls => by kernel_rfl, ⟨fun ls => by kernel_rfl, trivial⟩⟩)
/-! function 9 -/
def es9 : List (FuncId × Ent × List (List Bool)) := []
theorem ck9 (n : Nat) : CallKOk (ckOfM es9) (evF tab (n + 0)) :=
  ckOfM_nil
def kc9 : KC := (.seq (.reg r9_0) (.cond (.t 3) (.reg r9_1) .skip))
def ain9 : List APat := [⟨[.nilp], []⟩]
def aout9 : List RPat := [⟨(.tup []), [], []⟩]
def g9_0  : Option (Nat × List Leaf) :=
  some (0, [])
def g9 (s : Nat × List Leaf) : Option (Nat × List Leaf) := match s.1 with
  | 0 => let r := s.2; asE r (g9_0) none
  | _ => none
def ent9 : Ent := ⟨ain9, aout9, g9⟩
def os9 : List (Orc × List (List Bool)) := []
theorem ok9 (n : Nat) : EntSound (evF tab (n + 1)) 9 ent9 :=
  fn_sound (n := n + 0) (ck9 n) (OK := okOfM os9) (body := kc9) (show OrcsOk (okOfM os9) (evF tab (n + 0)) kc9 from ⟨trivial, ⟨trivial, trivial⟩⟩) t9 (by kernel_rfl)
    (all_ins (Q := fun i sh => ∀ ls, fillA sh ls (fun args h => fnK (ckOfM es9) (okOfM os9) sf9 kc9 args h (findRes aout9 0) none) none = g9 (i, ls)) (l := ain9) ⟨fun ls => by kernel_rfl, trivial⟩)
/-! function 19 -/
def es19 : List (FuncId × Ent × List (List Bool)) := []
theorem ck19 (n : Nat) : CallKOk (ckOfM es19) (evF tab (n + 0)) :=
  ckOfM_nil
def kc19 : KC := (.seq (.reg r19_0) (.seq (.seq (.reg r19_1) (.cond (.t 4) (.seq (.reg r19_2) (.seq (.kill [0, 4, 6]) .ret)) .skip)) (.seq (.seq (.reg r19_3) (.cond (.t 6) (.seq (.reg r19_4) (.seq (.kill [0, 4, 6]) .ret)) .skip)) (.seq (.reg r19_5) (.seq (.kill [0, 4, 6]) .ret)))))
def ain19 : List APat := [⟨[(.int .i64)], []⟩]
def aout19 : List RPat := [⟨(.int .i64), [], []⟩]
def g19_0 (a0 : Int) : Option (Nat × List Leaf) :=
  cond (Decidable.decide ((32767 : Int) < a0)) (some (0, [.i ((32767 : Int))])) (cond (Decidable.decide (a0 < (-32768 : Int))) (some (0, [.i ((-32768 : Int))])) (some (0, [.i (a0)])))
def g19 (s : Nat × List Leaf) : Option (Nat × List Leaf) := match s.1 with
  | 0 => let r := s.2; asI r (fun a0 r => asE r (g19_0 a0) none) none
  | _ => none
def ent19 : Ent := ⟨ain19, aout19, g19⟩
def os19 : List (Orc × List (List Bool)) := []
theorem ok19 (n : Nat) : EntSound (evF tab (n + 1)) 19 ent19 :=
  fn_sound (n := n + 0) (ck19 n) (OK := okOfM os19) (body := kc19) (show OrcsOk (okOfM os19) (evF tab (n + 0)) kc19 from ⟨trivial, ⟨⟨trivial, ⟨⟨trivial, ⟨trivial, trivial⟩⟩, trivial⟩⟩, ⟨⟨trivial, ⟨⟨trivial, ⟨trivial, trivial⟩⟩, trivial⟩⟩, ⟨trivial, ⟨trivial, trivial⟩⟩⟩⟩⟩) t19 (by kernel_rfl)
    (all_ins (Q := fun i sh => ∀ ls, fillA sh ls (fun args h => fnK (ckOfM es19) (okOfM os19) sf19 kc19 args h (findRes aout19 0) none) none = g19 (i, ls)) (l := ain19) ⟨fun ls => by kernel_rfl, trivial⟩)
/-! function 7 -/
def es7 : List (FuncId × Ent × List (List Bool)) := []
theorem ck7 (n : Nat) : CallKOk (ckOfM es7) (evF tab (n + 0)) :=
  ckOfM_nil
def kc7_0 : KC := (.seq (.seq (.seq (.reg r7_3) (.cond (.t 19) .skip (.seq (.kill [0, 1, 2, 3, 4, 19, 33]) (.exit 0)))) (.seq (.block 1 (.seq (.reg r7_4) (.cond (.t 33) (.seq (.reg r7_5) (.seq (.kill [0, 1, 3, 4, 19, 33]) .ret)) .skip))) (.reg r7_6))) (.kill [0, 1, 2, 19, 33]))
def in7_0 : List SPat := [⟨[(0, .unk), (1, .unk), (2, .unk), (3, (.slice 1 (.c 0) .h 1)), (4, (.int .i64)), (19, .unk), (33, .unk)], [(true, (.ints .i64)), (true, (.intsE .i64 5))], [], 0⟩]
def out7_0 : List (SX × SPat) := [((.exit 0), ⟨[(0, .unk), (1, .unk), (2, .unk), (3, .unk), (4, .unk), (19, .unk), (33, .unk)], [(true, (.ints .i64)), (true, (.intsE .i64 5))], [], 0⟩), (.ret, ⟨[(0, .unk), (1, .unk), (2, (.cbool false)), (3, .unk), (4, .unk), (19, .unk), (33, .unk)], [(true, (.ints .i64)), (true, (.intsE .i64 5))], [], 0⟩)]
def f7_0_0 (t3n : Nat) (t4 : Int) (h0 : List Int) (h1_0 : Int) (h1_1 : Int) (h1_2 : Int) (h1_3 : Int) (h1_4 : Int) : Option (Nat × List Leaf) :=
  cond (Decidable.decide (t4 < (↑t3n : Int))) (if (0 : Int) ≤ t4 ∧ t4 < (↑t3n : Int) then optK ([h1_0, h1_1, h1_2, h1_3, h1_4][Int.toNat t4]?) (fun x1 => cond (Decidable.decide (x1 < (-32768 : Int))) (some (2, [.l (h0), .i (h1_0), .i (h1_1), .i (h1_2), .i (h1_3), .i (h1_4)])) (if (0 : Int) ≤ t4 ∧ t4 < (↑t3n : Int) then optK ([h1_0, h1_1, h1_2, h1_3, h1_4][Int.toNat t4]?) (fun x2 => cond (Decidable.decide ((32768 : Int) < x2)) (some (2, [.l (h0), .i (h1_0), .i (h1_1), .i (h1_2), .i (h1_3), .i (h1_4)])) (some (0, [.n (t3n), .i (Go.IntKind.wrap Go.IntKind.i64 (t4 + (1 : Int))), .l (h0), .i (h1_0), .i (h1_1), .i (h1_2), .i (h1_3), .i (h1_4)]))) (none) else none)) (none) else none) (some (1, [.l (h0), .i (h1_0), .i (h1_1), .i (h1_2), .i (h1_3), .i (h1_4)]))
def f7_0 (s : Nat × List Leaf) : Option (Nat × List Leaf) := match s.1 with
  | 0 => let r := s.2; asN r (fun t3n r => asI r (fun t4 r => asL r (fun h0 r => asI r (fun h1_0 r => asI r (fun h1_1 r => asI r (fun h1_2 r => asI r (fun h1_3 r => asI r (fun h1_4 r => asE r (f7_0_0 t3n t4 h0 h1_0 h1_1 h1_2 h1_3 h1_4) none) none) none) none) none) none) none) none) none
  | _ => none
def L7_0 (s : Nat × List Leaf) : Option (Nat × List Leaf) := loopL 1 f7_0 s
def orc7_0 : Orc := ⟨in7_0, out7_0, L7_0⟩
def os7_0 : List (Orc × List (List Bool)) := []
theorem snd7_0 (n : Nat) : OrcSound (evF tab (n + 0)) (.loop l7_7) orc7_0 :=
  loop_sound (b := kc7_0) (OK := okOfM os7_0) (ck7 n) (show OrcsOk (okOfM os7_0) (evF tab (n + 0)) kc7_0 from ⟨⟨⟨trivial, ⟨trivial, ⟨trivial, trivial⟩⟩⟩, ⟨⟨trivial, ⟨⟨trivial, ⟨trivial, trivial⟩⟩, trivial⟩⟩, trivial⟩⟩, trivial⟩) (ins := in7_0) (outs := out7_0) (f := f7_0) (by kernel_rfl)
    (all_ins (Q := fun i sh => ∀ ls, fillS sh ls (fun st => evK (ckOfM es7) (okOfM os7_0) kc7_0 st (findOut (in7_0.map (SX.normal, ·) ++ out7_0) 0) none) none = f7_0 (i, ls)) (l := in7_0) ⟨fun ls => by kernel_rfl, trivial⟩)
def kc7 : KC := (.seq (.reg r7_0) (.seq (.reg r7_1) (.seq (.seq (.reg r7_2) (.block 0 (.seq (.kill [0, 1, 2, 19, 33]) (.orc 0 (.loop l7_7))))) (.seq (.reg r7_8) (.seq (.kill [0, 1, 3, 4, 19, 33]) .ret)))))
def ain7 : List APat := [⟨[(.ints .i64)], []⟩]
def aout7 : List RPat := [⟨.bool, [], []⟩]
def g7_0 (a0 : List Int) : Option (Nat × List Leaf) :=
  optK (a0[(0 : Nat)]?) (fun x1 => optK (a0[(1 : Nat)]?) (fun x2 => optK (a0[(2 : Nat)]?) (fun x3 => optK (a0[(3 : Nat)]?) (fun x4 => optK (a0[(4 : Nat)]?) (fun x5 => altK (L7_0 (0, [.n ((5 : Nat)), .i ((0 : Int)), .l (a0), .i (x1), .i (x2), .i (x3), .i (x4), .i (x5)])) [fun r => asL r (fun x13h0 r => asI r (fun x13h1_0 r => asI r (fun x13h1_1 r => asI r (fun x13h1_2 r => asI r (fun x13h1_3 r => asI r (fun x13h1_4 r => asE r (some (0, [.b (Bool.true)])) none) none) none) none) none) none) none, fun r => asL r (fun x21h0 r => asI r (fun x21h1_0 r => asI r (fun x21h1_1 r => asI r (fun x21h1_2 r => asI r (fun x21h1_3 r => asI r (fun x21h1_4 r => asE r (some (0, [.b (Bool.false)])) none) none) none) none) none) none) none] none) (none)) (none)) (none)) (none)) (none)
def g7 (s : Nat × List Leaf) : Option (Nat × List Leaf) := match s.1 with
  | 0 => let r := s.2; asL r (fun a0 r => asE r (g7_0 a0) none) none
  | _ => none
def ent7 : Ent := ⟨ain7, aout7, g7⟩
def os7 : List (Orc × List (List Bool)) := [(orc7_0, [[true, true]])]
theorem ok7 (n : Nat) : EntSound (evF tab (n + 1)) 7 ent7 :=
  fn_sound (n := n + 0) (ck7 n) (OK := okOfM os7) (body := kc7) (show OrcsOk (okOfM os7) (evF tab (n + 0)) kc7 from ⟨trivial, ⟨trivial, ⟨⟨trivial, ⟨trivial, (okOfM_ok (os := os7) (i := 0) (o := orc7_0) rfl (snd7_0 n))⟩⟩, ⟨trivial, ⟨trivial, trivial⟩⟩⟩⟩⟩) t7 (by kernel_rfl)
    (all_ins (Q := fun i sh => ∀ ls, fillA sh ls (fun args h => fnK (ckOfM es7) (okOfM os7) sf7 kc7 args h (findRes aout7 0) none) none = g7 (i, ls)) (l := ain7) ⟨fun ls => by kernel_rfl, trivial⟩)
/-! function 11 -/
def es11 : List (FuncId × Ent × List (List Bool)) := [(19, ent19, [[true]])]
theorem ck11 (n : Nat) : CallKOk (ckOfM es11) (evF tab (n + 1)) :=
  ckOfM_cons (ok19 (n + 0)) (ckOfM_nil)
def kc11 : KC := (.seq (.reg r11_0) (.seq (.reg r11_1) (.seq (.reg r11_2) (.seq (.reg r11_3) (.seq (.seq (.reg r11_4) (.cond (.t 67) (.reg r11_5) .skip)) (.seq (.reg r11_6) (.seq (.reg r11_7) (.seq (.reg r11_8) (.seq (.reg r11_9) (.seq (.reg r11_10) (.seq (.reg r11_11) (.seq (.kill [0, 1, 5, 6, 7, 8, 67]) .ret))))))))))))
def ain11 : List APat := [⟨[(.ptr 0 (.c 0)), (.int .i64)], [(true, (.ints .i64))]⟩]
def aout11 : List RPat := [⟨(.int .i64), [(true, (.ints .i64))], []⟩]
def g11_0 (a1 : Int) (h0 : List Int) : Option (Nat × List Leaf) :=
  altK (g19 (0, [.i (a1)])) [fun r => asI r (fun x1 r => asE r (optK (h0[(0 : Nat)]?) (fun x2 => optK (h0[(1 : Nat)]?) (fun x3 => optK (h0[(5 : Nat)]?) (fun x4 => optK (h0[(2 : Nat)]?) (fun x5 => optK (h0[(6 : Nat)]?) (fun x6 => optK (h0[(3 : Nat)]?) (fun x7 => optK (h0[(7 : Nat)]?) (fun x8 => optK (h0[(4 : Nat)]?) (fun x9 => optK (h0[(8 : Nat)]?) (fun x10 => cond (Decidable.decide (Int.tmod (Go.IntKind.wrap Go.IntKind.i64 (Go.IntKind.wrap Go.IntKind.i64 (Go.IntKind.wrap Go.IntKind.i64 (Go.IntKind.wrap Go.IntKind.i64 (Go.IntKind.wrap Go.IntKind.i64 (Go.IntKind.wrap Go.IntKind.i64 (x2 * x1) + Go.IntKind.wrap Go.IntKind.i64 (x3 * x4)) + Go.IntKind.wrap Go.IntKind.i64 (x5 * x6)) + Go.IntKind.wrap Go.IntKind.i64 (x7 * x8)) + Go.IntKind.wrap Go.IntKind.i64 (x9 * x10)) + (8192 : Int))) (16384 : Int) < (0 : Int))) (altK (g19 (0, [.i (Go.IntKind.wrap Go.IntKind.i64 (Go.IntKind.wrap Go.IntKind.i64 (Int.tdiv (Go.IntKind.wrap Go.IntKind.i64 (Go.IntKind.wrap Go.IntKind.i64 (Go.IntKind.wrap Go.IntKind.i64 (Go.IntKind.wrap Go.IntKind.i64 (Go.IntKind.wrap Go.IntKind.i64 (Go.IntKind.wrap Go.IntKind.i64 (x2 * x1) + Go.IntKind.wrap Go.IntKind.i64 (x3 * x4)) + Go.IntKind.wrap Go.IntKind.i64 (x5 * x6)) + Go.IntKind.wrap Go.IntKind.i64 (x7 * x8)) + Go.IntKind.wrap Go.IntKind.i64 (x9 * x10)) + (8192 : Int))) (16384 : Int)) - (1 : Int)))])) [fun r => asI r (fun x14 r => asE r (optK (h0[(5 : Nat)]?) (fun x15 => if (6 : Nat) < List.length h0 then if (5 : Nat) < List.length (List.set h0 (6 : Nat) x15) then optK ((List.set (List.set h0 (6 : Nat) x15) (5 : Nat) x1)[(7 : Nat)]?) (fun x16 => if (8 : Nat) < List.length (List.set (List.set h0 (6 : Nat) x15) (5 : Nat) x1) then if (7 : Nat) < List.length (List.set (List.set (List.set h0 (6 : Nat) x15) (5 : Nat) x1) (8 : Nat) x16) then some (0, [.i (x14), .l (List.set (List.set (List.set (List.set h0 (6 : Nat) x15) (5 : Nat) x1) (8 : Nat) x16) (7 : Nat) x14)]) else none else none) (none) else none else none) (none)) none) none] none) (altK (g19 (0, [.i (Go.IntKind.wrap Go.IntKind.i64 (Int.tdiv (Go.IntKind.wrap Go.IntKind.i64 (Go.IntKind.wrap Go.IntKind.i64 (Go.IntKind.wrap Go.IntKind.i64 (Go.IntKind.wrap Go.IntKind.i64 (Go.IntKind.wrap Go.IntKind.i64 (Go.IntKind.wrap Go.IntKind.i64 (x2 * x1) + Go.IntKind.wrap Go.IntKind.i64 (x3 * x4)) + Go.IntKind.wrap Go.IntKind.i64 (x5 * x6)) + Go.IntKind.wrap Go.IntKind.i64 (x7 * x8)) + Go.IntKind.wrap Go.IntKind.i64 (x9 * x10)) + (8192 : Int))) (16384 : Int)))])) [fun r => asI r (fun x11 r => asE r (optK (h0[(5 : Nat)]?) (fun x12 => if (6 : Nat) < List.length h0 then if (5 : Nat) < List.length (List.set h0 (6 : Nat) x12) then optK ((List.set (List.set h0 (6 : Nat) x12) (5 : Nat) x1)[(7 : Nat)]?) (fun x13 => if (8 : Nat) < List.length (List.set (List.set h0 (6 : Nat) x12) (5 : Nat) x1) then if (7 : Nat) < List.length (List.set (List.set (List.set h0 (6 : Nat) x12) (5 : Nat) x1) (8 : Nat) x13) then some (0, [.i (x11), .l (List.set (List.set (List.set (List.set h0 (6 : Nat) x12) (5 : Nat) x1) (8 : Nat) x13) (7 : Nat) x11)]) else none else none) (none) else none else none) (none)) none) none] none)) (none)) (none)) (none)) (none)) (none)) (none)) (none)) (none)) (none)) none) none] none
def g11 (s : Nat × List Leaf) : Option (Nat × List Leaf) := match s.1 with
  | 0 => let r := s.2; asI r (fun a1 r => asL r (fun h0 r => asE r (g11_0 a1 h0) none) none) none
  | _ => none
def ent11 : Ent := ⟨ain11, aout11, g11⟩
def os11 : List (Orc × List (List Bool)) := []
theorem ok11 (n : Nat) : EntSound (evF tab (n + 2)) 11 ent11 :=
  fn_sound (n := n + 1) (ck11 n) (OK := okOfM os11) (body := kc11) (show OrcsOk (okOfM os11) (evF tab (n + 1)) kc11 from ⟨trivial, ⟨trivial, ⟨trivial, ⟨trivial, ⟨⟨trivial, ⟨trivial, trivial⟩⟩, ⟨trivial, ⟨trivial, ⟨trivial, ⟨trivial, ⟨trivial, ⟨trivial, ⟨trivial, trivial⟩⟩⟩⟩⟩⟩⟩⟩⟩⟩⟩⟩) t11 (by kernel_rfl)
    (all_ins (Q := fun i sh => ∀ ls, fillA sh ls (fun args h => fnK (ckOfM es11) (okOfM os11) sf11 kc11 args h (findRes aout11 0) none) none = g11 (i, ls)) (l := ain11) ⟨fun ls => by kernel_rfl, trivial⟩)
end Go.Proofs.Ytgjmlenokdggoaa.P
