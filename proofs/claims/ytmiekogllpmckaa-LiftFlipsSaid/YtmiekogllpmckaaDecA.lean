/-
  Functions of this seat as functions of leaves, by program, and that the abstract machine answers as they do. Conditions: none.
-/
import Derived.Test.YtmiekogllpmckaaTab
import Derived.Test.YtmiekogllpmckaaSxW
import Derived.KernelRfl
namespace Go.Proofs.Ytmiekogllpmckaa
open Go Go.Sx
set_option maxRecDepth 100000
set_option linter.unusedVariables false
/-! function 4 -/
def es4 : List (FuncId × Ent) := []
theorem ck4 (n : Nat) : CallKOk (ckOf es4) (evF tab (n + 0)) :=
  ckOf_nil
def kc4_0 : KC := (.seq (.seq (.seq (.reg r4_3) (.cond (.t 13) .skip (.seq (.kill [0, 2, 4, 5, 13, 21, 23]) (.exit 0)))) (.seq (.block 1 (.seq (.reg r4_4) (.seq (.seq (.reg r4_5) (.cond (.t 21) (.reg r4_6) .skip)) (.seq (.seq (.reg r4_7) (.cond (.t 23) (.reg r4_8) .skip)) (.reg r4_9))))) (.reg r4_10))) (.kill [2, 5, 13, 21, 23]))
def in4_0 : List SPat := [⟨[(0, (.slice 0 (.c 0) .h 1)), (2, .unk), (3, .nils), (4, (.int .i64)), (5, .unk), (13, .unk), (21, .unk), (23, .unk)], [(false, (.ints .i64))], [], 1⟩, ⟨[(0, (.slice 0 (.c 0) .h 1)), (2, .unk), (3, (.slice 1 (.c 0) .h 1)), (4, (.int .i64)), (5, .unk), (13, .unk), (21, .unk), (23, .unk)], [(false, (.ints .i64)), (true, (.ints .i64))], [], 1⟩]
def out4_0 : List (SX × SPat) := [((.exit 0), ⟨[(0, .unk), (2, .unk), (3, .nils), (4, .unk), (5, .unk), (13, .unk), (21, .unk), (23, .unk)], [(false, (.ints .i64))], [], 1⟩), ((.exit 0), ⟨[(0, .unk), (2, .unk), (3, (.slice 1 (.c 0) .h 1)), (4, .unk), (5, .unk), (13, .unk), (21, .unk), (23, .unk)], [(false, (.ints .i64)), (true, (.ints .i64))], [], 1⟩)]
def f4_0_0 (t0n : Nat) (t4 : Int) (h0 : List Int) : Option (Nat × List Leaf) :=
  cond (Decidable.decide (t4 < (↑t0n : Int))) (cond (Decidable.decide (t4 < (20 : Int))) (if (0 : Int) ≤ t4 ∧ t4 < (↑t0n : Int) then optK (h0[Int.toNat t4]?) (fun x1 => cond (Decidable.decide ((1099511627776 : Int) < x1)) (some (1, [.n (t0n), .n ((1 : Nat)), .i (Go.IntKind.wrap Go.IntKind.i64 (t4 + (1 : Int))), .l (h0), .l ([(1099511627776 : Int)])])) (cond (Decidable.decide (x1 < (-1099511627776 : Int))) (some (1, [.n (t0n), .n ((1 : Nat)), .i (Go.IntKind.wrap Go.IntKind.i64 (t4 + (1 : Int))), .l (h0), .l ([(-1099511627776 : Int)])])) (some (1, [.n (t0n), .n ((1 : Nat)), .i (Go.IntKind.wrap Go.IntKind.i64 (t4 + (1 : Int))), .l (h0), .l ([x1])])))) (none) else none) (some (2, [.l (h0)]))) (some (2, [.l (h0)]))
def f4_0_1 (t0n : Nat) (t3n : Nat) (t4 : Int) (h0 : List Int) (h1 : List Int) : Option (Nat × List Leaf) :=
  cond (Decidable.decide (t4 < (↑t0n : Int))) (cond (Decidable.decide (t4 < (20 : Int))) (if (0 : Int) ≤ t4 ∧ t4 < (↑t0n : Int) then optK (h0[Int.toNat t4]?) (fun x1 => cond (Decidable.decide ((1099511627776 : Int) < x1)) (if (t3n + (1 : Nat)) * (8 : Nat) ≤ (70368744177664 : Nat) then if List.length h1 = t3n * (1 : Nat) then some (1, [.n (t0n), .n (t3n + (1 : Nat)), .i (Go.IntKind.wrap Go.IntKind.i64 (t4 + (1 : Int))), .l (h0), .l (h1 ++ [(1099511627776 : Int)])]) else none else none) (cond (Decidable.decide (x1 < (-1099511627776 : Int))) (if (t3n + (1 : Nat)) * (8 : Nat) ≤ (70368744177664 : Nat) then if List.length h1 = t3n * (1 : Nat) then some (1, [.n (t0n), .n (t3n + (1 : Nat)), .i (Go.IntKind.wrap Go.IntKind.i64 (t4 + (1 : Int))), .l (h0), .l (h1 ++ [(-1099511627776 : Int)])]) else none else none) (if (t3n + (1 : Nat)) * (8 : Nat) ≤ (70368744177664 : Nat) then if List.length h1 = t3n * (1 : Nat) then some (1, [.n (t0n), .n (t3n + (1 : Nat)), .i (Go.IntKind.wrap Go.IntKind.i64 (t4 + (1 : Int))), .l (h0), .l (h1 ++ [x1])]) else none else none))) (none) else none) (some (3, [.n (t3n), .l (h0), .l (h1)]))) (some (3, [.n (t3n), .l (h0), .l (h1)]))
def f4_0 (s : Nat × List Leaf) : Option (Nat × List Leaf) := match s.1 with
  | 0 => let r := s.2; asN r (fun t0n r => asI r (fun t4 r => asL r (fun h0 r => asE r (f4_0_0 t0n t4 h0) none) none) none) none
  | 1 => let r := s.2; asN r (fun t0n r => asN r (fun t3n r => asI r (fun t4 r => asL r (fun h0 r => asL r (fun h1 r => asE r (f4_0_1 t0n t3n t4 h0 h1) none) none) none) none) none) none
  | _ => none
def L4_0 (s : Nat × List Leaf) : Option (Nat × List Leaf) := loopL 2 f4_0 s
def orc4_0 : Orc := ⟨in4_0, out4_0, L4_0⟩
def os4_0 : List Orc := []
theorem snd4_0 (n : Nat) : OrcSound (evF tab (n + 0)) (.loop l4_11) orc4_0 :=
  loop_sound (b := kc4_0) (OK := okOf os4_0) (ck4 n) (show OrcsOk (okOf os4_0) (evF tab (n + 0)) kc4_0 from ⟨⟨⟨trivial, ⟨trivial, ⟨trivial, trivial⟩⟩⟩, ⟨⟨trivial, ⟨⟨trivial, ⟨trivial, trivial⟩⟩, ⟨⟨trivial, ⟨trivial, trivial⟩⟩, trivial⟩⟩⟩, trivial⟩⟩, trivial⟩) (ins := in4_0) (outs := out4_0) (f := f4_0) (by kernel_rfl)
    (all_ins (Q := fun i sh => ∀ ls, fillS sh ls (fun st => evK (ckOf es4) (okOf os4_0) kc4_0 st (findOut (in4_0.map (SX.normal, ·) ++ out4_0) 0) none) none = f4_0 (i, ls)) (l := in4_0) ⟨fun ls => by kernel_rfl, ⟨fun ls => by kernel_rfl, trivial⟩⟩)
def kc4 : KC := (.seq (.reg r4_0) (.seq (.reg r4_1) (.seq (.seq (.reg r4_2) (.block 0 (.seq (.kill [2, 5, 13, 21, 23]) (.orc 0 (.loop l4_11))))) (.seq (.reg r4_12) (.seq (.kill [0, 3, 4, 5, 13, 21, 23]) .ret)))))
def ain4 : List APat := [⟨[(.slice 0 (.c 0) .h 1)], [(false, (.ints .i64))]⟩]
def aout4 : List RPat := [⟨.nils, [(false, (.ints .i64))], []⟩, ⟨(.slice 1 (.c 0) .h 1), [(false, (.ints .i64)), (true, (.ints .i64))], []⟩]
def g4_0 (a0n : Nat) (h0 : List Int) : Option (Nat × List Leaf) :=
  altK (L4_0 (0, [.n (a0n), .i ((0 : Int)), .l (h0)])) [fun r => asL r (fun x9h0 r => asE r (some (0, [.l (x9h0)])) none) none, fun r => asN r (fun x12n r => asL r (fun x18h0 r => asL r (fun x18h1 r => asE r (some (1, [.n (x12n), .l (x18h0), .l (x18h1)])) none) none) none) none] none
def g4 (s : Nat × List Leaf) : Option (Nat × List Leaf) := match s.1 with
  | 0 => let r := s.2; asN r (fun a0n r => asL r (fun h0 r => asE r (g4_0 a0n h0) none) none) none
  | _ => none
def ent4 : Ent := ⟨ain4, aout4, g4⟩
def os4 : List Orc := [orc4_0]
theorem ok4 (n : Nat) : EntSound (evF tab (n + 1)) 4 ent4 :=
  fn_sound (n := n + 0) (ck4 n) (OK := okOf os4) (body := kc4) (show OrcsOk (okOf os4) (evF tab (n + 0)) kc4 from ⟨trivial, ⟨trivial, ⟨⟨trivial, ⟨trivial, (okOf_ok (os := os4) (i := 0) (o := orc4_0) rfl (snd4_0 n))⟩⟩, ⟨trivial, ⟨trivial, trivial⟩⟩⟩⟩⟩) t4 (by kernel_rfl)
    (all_ins (Q := fun i sh => ∀ ls, fillA sh ls (fun args h => fnK (ckOf es4) (okOf os4) sf4 kc4 args h (findRes aout4 0) none) none = g4 (i, ls)) (l := ain4) ⟨fun ls => by kernel_rfl, trivial⟩)
/-! function 5 -/
def es5 : List (FuncId × Ent) := []
theorem ck5 (n : Nat) : CallKOk (ckOf es5) (evF tab (n + 0)) :=
  ckOf_nil
def kc5_0 : KC := (.seq (.seq (.reg r5_3) (.seq (.cond (.t 12) .skip (.seq (.kill [0, 2, 4, 5, 9, 10, 11, 12]) (.exit 0))) (.seq (.block 1 (.seq (.reg r5_4) (.reg r5_5))) (.reg r5_6)))) (.kill [2, 4, 5, 12]))
def in5_0 : List SPat := [⟨[(0, (.slice 0 (.c 0) .h 1)), (2, .unk), (3, (.slice 1 (.c 0) .h 1)), (4, .unk), (5, .unk), (9, (.slice 0 (.c 0) .h 1)), (10, (.int .i64)), (11, (.int .i64)), (12, .unk)], [(true, (.ints .i64)), (true, (.ints .i64))], [], 1⟩, ⟨[(0, .nils), (2, .unk), (3, (.slice 0 (.c 0) .h 1)), (4, .unk), (5, .unk), (9, .nils), (10, (.int .i64)), (11, (.int .i64)), (12, .unk)], [(true, (.intsE .i64 0))], [], 0⟩]
def out5_0 : List (SX × SPat) := [((.exit 0), ⟨[(0, .unk), (2, .unk), (3, (.slice 1 (.c 0) .h 1)), (4, .unk), (5, .unk), (9, .unk), (10, .unk), (11, .unk), (12, .unk)], [(true, (.ints .i64)), (true, (.ints .i64))], [], 1⟩), ((.exit 0), ⟨[(0, .unk), (2, .unk), (3, (.slice 0 (.c 0) .h 1)), (4, .unk), (5, .unk), (9, .unk), (10, .unk), (11, .unk), (12, .unk)], [(true, (.intsE .i64 0))], [], 0⟩)]
def f5_0_0 (t0n : Nat) (t3n : Nat) (t9n : Nat) (t10 : Int) (t11 : Int) (h0 : List Int) (h1 : List Int) : Option (Nat × List Leaf) :=
  cond (Decidable.decide (t11 < t10)) (if (0 : Int) ≤ t11 ∧ t11 < (↑t9n : Int) then optK (h0[Int.toNat t11]?) (fun x1 => if (0 : Int) ≤ Go.IntKind.wrap Go.IntKind.i64 (Go.IntKind.wrap Go.IntKind.i64 ((↑t0n : Int) - (1 : Int)) - t11) ∧ Go.IntKind.wrap Go.IntKind.i64 (Go.IntKind.wrap Go.IntKind.i64 ((↑t0n : Int) - (1 : Int)) - t11) < (↑t3n : Int) then if Int.toNat (Go.IntKind.wrap Go.IntKind.i64 (Go.IntKind.wrap Go.IntKind.i64 ((↑t0n : Int) - (1 : Int)) - t11)) < List.length h1 then some (0, [.n (t0n), .n (t3n), .n (t9n), .i (t10), .i (Go.IntKind.wrap Go.IntKind.i64 (t11 + (1 : Int))), .l (h0), .l (List.set h1 (Int.toNat (Go.IntKind.wrap Go.IntKind.i64 (Go.IntKind.wrap Go.IntKind.i64 ((↑t0n : Int) - (1 : Int)) - t11))) x1)]) else none else none) (none) else none) (some (2, [.n (t3n), .l (h0), .l (h1)]))
def f5_0_1 (t3n : Nat) (t10 : Int) (t11 : Int) : Option (Nat × List Leaf) :=
  cond (Decidable.decide (t11 < t10)) (none) (some (3, [.n (t3n)]))
def f5_0 (s : Nat × List Leaf) : Option (Nat × List Leaf) := match s.1 with
  | 0 => let r := s.2; asN r (fun t0n r => asN r (fun t3n r => asN r (fun t9n r => asI r (fun t10 r => asI r (fun t11 r => asL r (fun h0 r => asL r (fun h1 r => asE r (f5_0_0 t0n t3n t9n t10 t11 h0 h1) none) none) none) none) none) none) none) none
  | 1 => let r := s.2; asN r (fun t3n r => asI r (fun t10 r => asI r (fun t11 r => asE r (f5_0_1 t3n t10 t11) none) none) none) none
  | _ => none
def L5_0 (s : Nat × List Leaf) : Option (Nat × List Leaf) := loopL 2 f5_0 s
def orc5_0 : Orc := ⟨in5_0, out5_0, L5_0⟩
def os5_0 : List Orc := []
theorem snd5_0 (n : Nat) : OrcSound (evF tab (n + 0)) (.loop l5_7) orc5_0 :=
  loop_sound (b := kc5_0) (OK := okOf os5_0) (ck5 n) (show OrcsOk (okOf os5_0) (evF tab (n + 0)) kc5_0 from ⟨⟨trivial, ⟨⟨trivial, ⟨trivial, trivial⟩⟩, ⟨⟨trivial, trivial⟩, trivial⟩⟩⟩, trivial⟩) (ins := in5_0) (outs := out5_0) (f := f5_0) (by kernel_rfl)
    (all_ins (Q := fun i sh => ∀ ls, fillS sh ls (fun st => evK (ckOf es5) (okOf os5_0) kc5_0 st (findOut (in5_0.map (SX.normal, ·) ++ out5_0) 0) none) none = f5_0 (i, ls)) (l := in5_0) ⟨fun ls => by kernel_rfl, ⟨fun ls => by kernel_rfl, trivial⟩⟩)
def kc5 : KC := (.seq (.reg r5_0) (.seq (.reg r5_1) (.seq (.seq (.reg r5_2) (.block 0 (.seq (.kill [2, 4, 5, 12]) (.orc 0 (.loop l5_7))))) (.seq (.reg r5_8) (.seq (.kill [0, 3, 4, 5, 9, 10, 11, 12]) .ret)))))
def ain5 : List APat := [⟨[(.slice 0 (.c 0) .h 1)], [(true, (.ints .i64))]⟩, ⟨[.nils], []⟩]
def aout5 : List RPat := [⟨(.slice 1 (.c 0) .h 1), [(true, (.ints .i64)), (true, (.ints .i64))], []⟩, ⟨(.slice 0 (.c 0) .h 1), [(true, (.ints .i64))], []⟩]
def g5_0 (a0n : Nat) (h0 : List Int) : Option (Nat × List Leaf) :=
  if (↑a0n : Int) = (↑a0n : Int) then if (8 : Int) * (↑a0n : Int) ≤ (140737488355328 : Int) then if (↑a0n : Int) ≤ (9223372036854775807 : Int) then altK (L5_0 (0, [.n (a0n), .n (Int.toNat (↑a0n : Int)), .n (a0n), .i ((↑a0n : Int)), .i ((0 : Int)), .l (h0), .l (List.replicate (Int.toNat (↑a0n : Int)) (0 : Int))])) [fun r => asN r (fun x3n r => asL r (fun x10h0 r => asL r (fun x10h1 r => asE r (some (0, [.n (x3n), .l (x10h0), .l (x10h1)])) none) none) none) none, fun r => asN r (fun x13n r => asE r (some (1, [.n (x13n), .l ([])])) none) none] none else none else none else none
def g5_1  : Option (Nat × List Leaf) :=
  altK (L5_0 (1, [.n ((0 : Nat)), .i ((0 : Int)), .i ((0 : Int))])) [fun r => asN r (fun x3n r => asL r (fun x10h0 r => asL r (fun x10h1 r => asE r (some (1, [.n (x3n), .l (x10h1)])) none) none) none) none, fun r => asN r (fun x13n r => asE r (some (1, [.n (x13n), .l ([])])) none) none] none
def g5 (s : Nat × List Leaf) : Option (Nat × List Leaf) := match s.1 with
  | 0 => let r := s.2; asN r (fun a0n r => asL r (fun h0 r => asE r (g5_0 a0n h0) none) none) none
  | 1 => let r := s.2; asE r (g5_1) none
  | _ => none
def ent5 : Ent := ⟨ain5, aout5, g5⟩
def os5 : List Orc := [orc5_0]
theorem ok5 (n : Nat) : EntSound (evF tab (n + 1)) 5 ent5 :=
  fn_sound (n := n + 0) (ck5 n) (OK := okOf os5) (body := kc5) (show OrcsOk (okOf os5) (evF tab (n + 0)) kc5 from ⟨trivial, ⟨trivial, ⟨⟨trivial, ⟨trivial, (okOf_ok (os := os5) (i := 0) (o := orc5_0) rfl (snd5_0 n))⟩⟩, ⟨trivial, ⟨trivial, trivial⟩⟩⟩⟩⟩) t5 (by kernel_rfl)
    (all_ins (Q := fun i sh => ∀ ls, fillA sh ls (fun args h => fnK (ckOf es5) (okOf os5) sf5 kc5 args h (findRes aout5 0) none) none = g5 (i, ls)) (l := ain5) ⟨fun ls => by kernel_rfl, ⟨fun ls => by kernel_rfl, trivial⟩⟩)
/-! function 6: closed -/
theorem ok6 (n : Nat) : EntSound (evF tab (n + 20)) 6 awakeE := awake_sound (by kernel_rfl)
/-! function 3 -/
def es3 : List (FuncId × Ent) := [(4, ent4), (5, ent5), (6, awakeE)]
theorem ck3 (n : Nat) : CallKOk (ckOf es3) (evF tab (n + 20)) :=
  ckOf_cons (ok4 (n + 19)) (ckOf_cons (ok5 (n + 19)) (ckOf_cons (ok6 (n + 0)) (ckOf_nil)))
def kc3_0 : KC := (.seq (.seq (.seq (.reg r3_6) (.cond (.t 17) .skip (.seq (.kill [0, 2, 3, 4, 13, 17, 32]) (.exit 0)))) (.seq (.block 1 (.seq (.reg r3_7) (.cond (.t 32) (.seq (.reg r3_8) (.seq (.kill [0, 3, 4, 13, 17, 32]) .ret)) .skip))) (.reg r3_9))) (.kill [2, 13, 17, 32]))
def in3_0 : List SPat := [⟨[(0, .nils), (2, .unk), (3, (.slice 1 (.c 0) .h 1)), (4, (.int .i64)), (13, .unk), (17, .unk), (32, .unk)], [(false, (.ints .i64)), (true, (.ints .i64))], [], 1⟩, ⟨[(0, (.slice 1 (.c 0) .h 1)), (2, .unk), (3, (.slice 2 (.c 0) .h 1)), (4, (.int .i64)), (13, .unk), (17, .unk), (32, .unk)], [(false, (.ints .i64)), (true, (.ints .i64)), (true, (.ints .i64))], [], 1⟩, ⟨[(0, (.slice 1 (.c 0) .h 1)), (2, .unk), (3, (.slice 1 (.c 0) .h 1)), (4, (.int .i64)), (13, .unk), (17, .unk), (32, .unk)], [(false, (.ints .i64)), (true, (.ints .i64))], [], 1⟩]
def out3_0 : List (SX × SPat) := [((.exit 0), ⟨[(0, .unk), (2, .unk), (3, .unk), (4, .unk), (13, .unk), (17, .unk), (32, .unk)], [(false, (.ints .i64)), (true, (.ints .i64))], [], 1⟩), ((.exit 0), ⟨[(0, .unk), (2, .unk), (3, .unk), (4, .unk), (13, .unk), (17, .unk), (32, .unk)], [(false, (.ints .i64)), (true, (.ints .i64)), (true, (.ints .i64))], [], 1⟩), (.ret, ⟨[(0, .unk), (2, (.cbool false)), (3, .unk), (4, .unk), (13, .unk), (17, .unk), (32, .unk)], [(false, (.ints .i64)), (true, (.ints .i64)), (true, (.ints .i64))], [], 1⟩), (.ret, ⟨[(0, .unk), (2, (.cbool false)), (3, .unk), (4, .unk), (13, .unk), (17, .unk), (32, .unk)], [(false, (.ints .i64)), (true, (.ints .i64))], [], 1⟩)]
def f3_0_0 (t3n : Nat) (t4 : Int) (h0 : List Int) (h1 : List Int) : Option (Nat × List Leaf) :=
  cond (Decidable.decide (t4 < (0 : Int))) (if (0 : Int) ≤ t4 ∧ t4 < (↑t3n : Int) then optK (h1[Int.toNat t4]?) (fun x1 => none) (none) else none) (some (3, [.l (h0), .l (h1)]))
def f3_0_1 (t0n : Nat) (t3n : Nat) (t4 : Int) (h0 : List Int) (h1 : List Int) (h2 : List Int) : Option (Nat × List Leaf) :=
  cond (Decidable.decide (t4 < (↑t0n : Int))) (if (0 : Int) ≤ t4 ∧ t4 < (↑t3n : Int) then optK (h2[Int.toNat t4]?) (fun x1 => if (0 : Int) ≤ Go.IntKind.wrap Go.IntKind.i64 (Go.IntKind.wrap Go.IntKind.i64 ((↑t0n : Int) - (1 : Int)) - t4) ∧ Go.IntKind.wrap Go.IntKind.i64 (Go.IntKind.wrap Go.IntKind.i64 ((↑t0n : Int) - (1 : Int)) - t4) < (↑t0n : Int) then optK (h1[Int.toNat (Go.IntKind.wrap Go.IntKind.i64 (Go.IntKind.wrap Go.IntKind.i64 ((↑t0n : Int) - (1 : Int)) - t4))]?) (fun x2 => cond (Decidable.decide (x1 ≠ x2)) (some (5, [.l (h0), .l (h1), .l (h2)])) (some (1, [.n (t0n), .n (t3n), .i (Go.IntKind.wrap Go.IntKind.i64 (t4 + (1 : Int))), .l (h0), .l (h1), .l (h2)]))) (none) else none) (none) else none) (some (4, [.l (h0), .l (h1), .l (h2)]))
def f3_0_2 (t0n : Nat) (t3n : Nat) (t4 : Int) (h0 : List Int) (h1 : List Int) : Option (Nat × List Leaf) :=
  cond (Decidable.decide (t4 < (↑t0n : Int))) (if (0 : Int) ≤ t4 ∧ t4 < (↑t3n : Int) then optK (h1[Int.toNat t4]?) (fun x1 => if (0 : Int) ≤ Go.IntKind.wrap Go.IntKind.i64 (Go.IntKind.wrap Go.IntKind.i64 ((↑t0n : Int) - (1 : Int)) - t4) ∧ Go.IntKind.wrap Go.IntKind.i64 (Go.IntKind.wrap Go.IntKind.i64 ((↑t0n : Int) - (1 : Int)) - t4) < (↑t0n : Int) then optK (h1[Int.toNat (Go.IntKind.wrap Go.IntKind.i64 (Go.IntKind.wrap Go.IntKind.i64 ((↑t0n : Int) - (1 : Int)) - t4))]?) (fun x2 => cond (Decidable.decide (x1 ≠ x2)) (some (6, [.l (h0), .l (h1)])) (some (2, [.n (t0n), .n (t3n), .i (Go.IntKind.wrap Go.IntKind.i64 (t4 + (1 : Int))), .l (h0), .l (h1)]))) (none) else none) (none) else none) (some (3, [.l (h0), .l (h1)]))
def f3_0 (s : Nat × List Leaf) : Option (Nat × List Leaf) := match s.1 with
  | 0 => let r := s.2; asN r (fun t3n r => asI r (fun t4 r => asL r (fun h0 r => asL r (fun h1 r => asE r (f3_0_0 t3n t4 h0 h1) none) none) none) none) none
  | 1 => let r := s.2; asN r (fun t0n r => asN r (fun t3n r => asI r (fun t4 r => asL r (fun h0 r => asL r (fun h1 r => asL r (fun h2 r => asE r (f3_0_1 t0n t3n t4 h0 h1 h2) none) none) none) none) none) none) none
  | 2 => let r := s.2; asN r (fun t0n r => asN r (fun t3n r => asI r (fun t4 r => asL r (fun h0 r => asL r (fun h1 r => asE r (f3_0_2 t0n t3n t4 h0 h1) none) none) none) none) none) none
  | _ => none
def L3_0 (s : Nat × List Leaf) : Option (Nat × List Leaf) := loopL 3 f3_0 s
def orc3_0 : Orc := ⟨in3_0, out3_0, L3_0⟩
def os3_0 : List Orc := []
theorem snd3_0 (n : Nat) : OrcSound (evF tab (n + 20)) (.loop l3_10) orc3_0 :=
  loop_sound (b := kc3_0) (OK := okOf os3_0) (ck3 n) (show OrcsOk (okOf os3_0) (evF tab (n + 20)) kc3_0 from ⟨⟨⟨trivial, ⟨trivial, ⟨trivial, trivial⟩⟩⟩, ⟨⟨trivial, ⟨⟨trivial, ⟨trivial, trivial⟩⟩, trivial⟩⟩, trivial⟩⟩, trivial⟩) (ins := in3_0) (outs := out3_0) (f := f3_0) (by kernel_rfl)
    (all_ins (Q := fun i sh => ∀ ls, fillS sh ls (fun st => evK (ckOf es3) (okOf os3_0) kc3_0 st (findOut (in3_0.map (SX.normal, ·) ++ out3_0) 0) none) none = f3_0 (i, ls)) (l := in3_0) ⟨fun ls => by kernel_rfl, ⟨fun ls => by kernel_rfl, ⟨fun ls => by kernel_rfl, trivial⟩⟩⟩)
def kc3 : KC := (.seq (.reg r3_0) (.seq (.reg r3_1) (.seq (.reg r3_2) (.seq (.seq (.reg r3_3) (.cond (.t 13) (.seq (.reg r3_4) (.seq (.kill [0, 3, 4, 13, 17, 32]) .ret)) .skip)) (.seq (.seq (.reg r3_5) (.block 0 (.seq (.kill [2, 13, 17, 32]) (.orc 0 (.loop l3_10))))) (.seq (.reg r3_11) (.seq (.kill [0, 3, 4, 13, 17, 32]) .ret)))))))
def ain3 : List APat := [⟨[(.slice 0 (.c 0) .h 1)], [(false, (.ints .i64))]⟩]
def aout3 : List RPat := [⟨.bool, [(false, (.ints .i64))], []⟩]
def g3_0 (a0n : Nat) (h0 : List Int) : Option (Nat × List Leaf) :=
  altK (g4 (0, [.n (a0n), .l (h0)])) [fun r => asL r (fun x1h0 r => asE r (altK (g5 (1, [])) [fun r => asN r (fun x2n r => asL r (fun x2h0 r => asL r (fun x2h1 r => asE r (cond (Decidable.decide ((↑x2n : Int) ≠ (0 : Int))) (some (0, [.b (Bool.false), .l (x1h0)])) (altK (L3_0 (0, [.n (x2n), .i ((0 : Int)), .l (x1h0), .l (x2h1)])) [fun r => asL r (fun x10h0 r => asL r (fun x10h1 r => asE r (altK (awakeL (0, [])) [fun r => asB r (fun x11 r => asE r (some (0, [.b (x11), .l (x10h0)])) none) none] none) none) none) none, fun r => asL r (fun x19h0 r => asL r (fun x19h1 r => asL r (fun x19h2 r => asE r (altK (awakeL (0, [])) [fun r => asB r (fun x20 r => asE r (some (0, [.b (x20), .l (x19h0)])) none) none] none) none) none) none) none, fun r => asL r (fun x28h0 r => asL r (fun x28h1 r => asL r (fun x28h2 r => asE r (some (0, [.b (Bool.false), .l (x28h0)])) none) none) none) none, fun r => asL r (fun x36h0 r => asL r (fun x36h1 r => asE r (some (0, [.b (Bool.false), .l (x36h0)])) none) none) none] none)) none) none) none) none, fun r => asN r (fun x37n r => asL r (fun x37h0 r => asE r (cond (Decidable.decide ((↑x37n : Int) ≠ (0 : Int))) (some (0, [.b (Bool.false), .l (x1h0)])) (altK (L3_0 (0, [.n (x37n), .i ((0 : Int)), .l (x1h0), .l (x37h0)])) [fun r => asL r (fun x45h0 r => asL r (fun x45h1 r => asE r (altK (awakeL (0, [])) [fun r => asB r (fun x46 r => asE r (some (0, [.b (x46), .l (x45h0)])) none) none] none) none) none) none, fun r => asL r (fun x54h0 r => asL r (fun x54h1 r => asL r (fun x54h2 r => asE r (altK (awakeL (0, [])) [fun r => asB r (fun x55 r => asE r (some (0, [.b (x55), .l (x54h0)])) none) none] none) none) none) none) none, fun r => asL r (fun x63h0 r => asL r (fun x63h1 r => asL r (fun x63h2 r => asE r (some (0, [.b (Bool.false), .l (x63h0)])) none) none) none) none, fun r => asL r (fun x71h0 r => asL r (fun x71h1 r => asE r (some (0, [.b (Bool.false), .l (x71h0)])) none) none) none] none)) none) none) none] none) none) none, fun r => asN r (fun x72n r => asL r (fun x72h0 r => asL r (fun x72h1 r => asE r (altK (g5 (0, [.n (x72n), .l (x72h1)])) [fun r => asN r (fun x73n r => asL r (fun x73h0 r => asL r (fun x73h1 r => asE r (cond (Decidable.decide ((↑x73n : Int) ≠ (↑x72n : Int))) (some (0, [.b (Bool.false), .l (x72h0)])) (altK (L3_0 (1, [.n (x72n), .n (x73n), .i ((0 : Int)), .l (x72h0), .l (x73h0), .l (x73h1)])) [fun r => asL r (fun x81h0 r => asL r (fun x81h1 r => asE r (altK (awakeL (0, [])) [fun r => asB r (fun x82 r => asE r (some (0, [.b (x82), .l (x81h0)])) none) none] none) none) none) none, fun r => asL r (fun x90h0 r => asL r (fun x90h1 r => asL r (fun x90h2 r => asE r (altK (awakeL (0, [])) [fun r => asB r (fun x91 r => asE r (some (0, [.b (x91), .l (x90h0)])) none) none] none) none) none) none) none, fun r => asL r (fun x99h0 r => asL r (fun x99h1 r => asL r (fun x99h2 r => asE r (some (0, [.b (Bool.false), .l (x99h0)])) none) none) none) none, fun r => asL r (fun x107h0 r => asL r (fun x107h1 r => asE r (some (0, [.b (Bool.false), .l (x107h0)])) none) none) none] none)) none) none) none) none, fun r => asN r (fun x108n r => asL r (fun x108h0 r => asE r (cond (Decidable.decide ((↑x108n : Int) ≠ (↑x72n : Int))) (some (0, [.b (Bool.false), .l (x72h0)])) (altK (L3_0 (2, [.n (x72n), .n (x108n), .i ((0 : Int)), .l (x72h0), .l (x108h0)])) [fun r => asL r (fun x116h0 r => asL r (fun x116h1 r => asE r (altK (awakeL (0, [])) [fun r => asB r (fun x117 r => asE r (some (0, [.b (x117), .l (x116h0)])) none) none] none) none) none) none, fun r => asL r (fun x125h0 r => asL r (fun x125h1 r => asL r (fun x125h2 r => asE r (altK (awakeL (0, [])) [fun r => asB r (fun x126 r => asE r (some (0, [.b (x126), .l (x125h0)])) none) none] none) none) none) none) none, fun r => asL r (fun x134h0 r => asL r (fun x134h1 r => asL r (fun x134h2 r => asE r (some (0, [.b (Bool.false), .l (x134h0)])) none) none) none) none, fun r => asL r (fun x142h0 r => asL r (fun x142h1 r => asE r (some (0, [.b (Bool.false), .l (x142h0)])) none) none) none] none)) none) none) none] none) none) none) none) none] none
def g3 (s : Nat × List Leaf) : Option (Nat × List Leaf) := match s.1 with
  | 0 => let r := s.2; asN r (fun a0n r => asL r (fun h0 r => asE r (g3_0 a0n h0) none) none) none
  | _ => none
def ent3 : Ent := ⟨ain3, aout3, g3⟩
def os3 : List Orc := [orc3_0]
theorem ok3 (n : Nat) : EntSound (evF tab (n + 21)) 3 ent3 :=
  fn_sound (n := n + 20) (ck3 n) (OK := okOf os3) (body := kc3) (show OrcsOk (okOf os3) (evF tab (n + 20)) kc3 from ⟨trivial, ⟨trivial, ⟨trivial, ⟨⟨trivial, ⟨⟨trivial, ⟨trivial, trivial⟩⟩, trivial⟩⟩, ⟨⟨trivial, ⟨trivial, (okOf_ok (os := os3) (i := 0) (o := orc3_0) rfl (snd3_0 n))⟩⟩, ⟨trivial, ⟨trivial, trivial⟩⟩⟩⟩⟩⟩⟩) t3 (by kernel_rfl)
    (all_ins (Q := fun i sh => ∀ ls, fillA sh ls (fun args h => fnK (ckOf es3) (okOf os3) sf3 kc3 args h (findRes aout3 0) none) none = g3 (i, ls)) (l := ain3) ⟨fun ls => by kernel_rfl, trivial⟩)
end Go.Proofs.Ytmiekogllpmckaa
