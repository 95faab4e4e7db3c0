/-
  Functions of this seat as functions of leaves, by program, and that the abstract machine answers as they do. Conditions: none.
-/
import Derived.Test.YthkefaobciihdaaTab
import Derived.Test.YthkefaobciihdaaSxW
import Derived.KernelRfl
namespace Go.Proofs.Ythkefaobciihdaa
open Go Go.Sx
set_option maxRecDepth 100000
set_option linter.unusedVariables false
/-! function 15 -/
def es15 : List (FuncId × Ent) := []
theorem ck15 (n : Nat) : CallKOk (ckOf es15) (evF tab (n + 0)) :=
  ckOf_nil
def kc15 : KC := (.seq (.reg r15_0) (.seq (.block 0 (.seq (.reg r15_1) (.cond (.t 3) (.seq (.reg r15_2) (.seq (.kill [0, 3, 6]) .ret)) (.seq (.reg r15_3) (.cond (.t 6) (.seq (.reg r15_4) (.seq (.kill [0, 3, 6]) .ret)) .skip))))) (.seq (.reg r15_5) (.seq (.kill [0, 3, 6]) .ret))))
def ain15 : List APat := [⟨[(.int .i64)], []⟩]
def aout15 : List RPat := [⟨(.int .i64), [], []⟩]
def g15_0 (a0 : Int) : Option (Nat × List Leaf) :=
  cond (Decidable.decide (a0 = (-9223372036854775808 : Int))) (some (0, [.i ((9223372036854775807 : Int))])) (cond (Decidable.decide (a0 < (0 : Int))) (some (0, [.i (Go.IntKind.wrap Go.IntKind.i64 ((0 : Int) - a0))])) (some (0, [.i (a0)])))
def g15 (s : Nat × List Leaf) : Option (Nat × List Leaf) := match s.1 with
  | 0 => let r := s.2; asI r (fun a0 r => asE r (g15_0 a0) none) none
  | _ => none
def ent15 : Ent := ⟨ain15, aout15, g15⟩
def os15 : List Orc := []
theorem ok15 (n : Nat) : EntSound (evF tab (n + 1)) 15 ent15 :=
  fn_sound (n := n + 0) (ck15 n) (OK := okOf os15) (body := kc15) (show OrcsOk (okOf os15) (evF tab (n + 0)) kc15 from ⟨trivial, ⟨⟨trivial, ⟨⟨trivial, ⟨trivial, trivial⟩⟩, ⟨trivial, ⟨⟨trivial, ⟨trivial, trivial⟩⟩, trivial⟩⟩⟩⟩, ⟨trivial, ⟨trivial, trivial⟩⟩⟩⟩) t15 (by kernel_rfl)
    (all_ins (Q := fun i sh => ∀ ls, fillA sh ls (fun args h => fnK (ckOf es15) (okOf os15) sf15 kc15 args h (findRes aout15 0) none) none = g15 (i, ls)) (l := ain15) ⟨fun ls => by kernel_rfl, trivial⟩)
/-! function 14 -/
def es14 : List (FuncId × Ent) := [(15, ent15)]
theorem ck14 (n : Nat) : CallKOk (ckOf es14) (evF tab (n + 1)) :=
  ckOf_cons (ok15 (n + 0)) (ckOf_nil)
def kc14_0 : KC := (.seq (.seq (.reg r14_3) (.seq (.cond (.t 9) .skip (.seq (.kill [0, 2, 5, 6, 7, 8, 9]) (.exit 0))) (.seq (.block 1 (.seq (.reg r14_4) (.reg r14_5))) (.reg r14_6)))) (.kill [0, 2, 5, 9]))
def in14_0 : List SPat := [⟨[(0, .unk), (2, .unk), (3, (.int .i64)), (5, .unk), (6, (.slice 0 .h .h 1)), (7, (.int .i64)), (8, (.int .i64)), (9, .unk)], [(true, (.ints .i64))], [], 1⟩]
def out14_0 : List (SX × SPat) := [((.exit 0), ⟨[(0, .unk), (2, .unk), (3, (.int .i64)), (5, .unk), (6, .unk), (7, .unk), (8, .unk), (9, .unk)], [(true, (.ints .i64))], [], 1⟩)]
def f14_0_0 (t3 : Int) (t6o : Nat) (t6n : Nat) (t7 : Int) (t8 : Int) (h0 : List Int) : Option (Nat × List Leaf) :=
  cond (Decidable.decide (t8 < t7)) (if (0 : Int) ≤ t8 ∧ t8 < (↑t6n : Int) then optK (h0[Int.toNat t8 + t6o]?) (fun x1 => altK (g15 (0, [.i (x1)])) [fun r => asI r (fun x2 r => asE r (some (0, [.i (if x2 > t3 then x2 else t3), .n (t6o), .n (t6n), .i (t7), .i (Go.IntKind.wrap Go.IntKind.i64 (t8 + (1 : Int))), .l (h0)])) none) none] none) (none) else none) (some (1, [.i (t3), .l (h0)]))
def f14_0 (s : Nat × List Leaf) : Option (Nat × List Leaf) := match s.1 with
  | 0 => let r := s.2; asI r (fun t3 r => asN r (fun t6o r => asN r (fun t6n r => asI r (fun t7 r => asI r (fun t8 r => asL r (fun h0 r => asE r (f14_0_0 t3 t6o t6n t7 t8 h0) none) none) none) none) none) none) none
  | _ => none
def L14_0 (s : Nat × List Leaf) : Option (Nat × List Leaf) := loopL 1 f14_0 s
def orc14_0 : Orc := ⟨in14_0, out14_0, L14_0⟩
def os14_0 : List Orc := []
theorem snd14_0 (n : Nat) : OrcSound (evF tab (n + 1)) (.loop l14_7) orc14_0 :=
  loop_sound (b := kc14_0) (OK := okOf os14_0) (ck14 n) (show OrcsOk (okOf os14_0) (evF tab (n + 1)) kc14_0 from ⟨⟨trivial, ⟨⟨trivial, ⟨trivial, trivial⟩⟩, ⟨⟨trivial, trivial⟩, trivial⟩⟩⟩, trivial⟩) (ins := in14_0) (outs := out14_0) (f := f14_0) (by kernel_rfl)
    (all_ins (Q := fun i sh => ∀ ls, fillS sh ls (fun st => evK (ckOf es14) (okOf os14_0) kc14_0 st (findOut (in14_0.map (SX.normal, ·) ++ out14_0) 0) none) none = f14_0 (i, ls)) (l := in14_0) ⟨fun ls => by kernel_rfl, trivial⟩)
def kc14 : KC := (.seq (.reg r14_0) (.seq (.reg r14_1) (.seq (.seq (.reg r14_2) (.block 0 (.seq (.kill [0, 2, 5, 9]) (.orc 0 (.loop l14_7))))) (.seq (.reg r14_8) (.seq (.kill [0, 3, 5, 6, 7, 8, 9]) .ret)))))
def ain14 : List APat := [⟨[(.slice 0 .h .h 1)], [(true, (.ints .i64))]⟩]
def aout14 : List RPat := [⟨(.int .i64), [(true, (.ints .i64))], []⟩]
def g14_0 (a0o : Nat) (a0n : Nat) (h0 : List Int) : Option (Nat × List Leaf) :=
  altK (L14_0 (0, [.i ((0 : Int)), .n (a0o), .n (a0n), .i ((↑a0n : Int)), .i ((0 : Int)), .l (h0)])) [fun r => asI r (fun x3 r => asL r (fun x9h0 r => asE r (some (0, [.i (x3), .l (x9h0)])) none) none) none] none
def g14 (s : Nat × List Leaf) : Option (Nat × List Leaf) := match s.1 with
  | 0 => let r := s.2; asN r (fun a0o r => asN r (fun a0n r => asL r (fun h0 r => asE r (g14_0 a0o a0n h0) none) none) none) none
  | _ => none
def ent14 : Ent := ⟨ain14, aout14, g14⟩
def os14 : List Orc := [orc14_0]
theorem ok14 (n : Nat) : EntSound (evF tab (n + 2)) 14 ent14 :=
  fn_sound (n := n + 1) (ck14 n) (OK := okOf os14) (body := kc14) (show OrcsOk (okOf os14) (evF tab (n + 1)) kc14 from ⟨trivial, ⟨trivial, ⟨⟨trivial, ⟨trivial, (okOf_ok (os := os14) (i := 0) (o := orc14_0) rfl (snd14_0 n))⟩⟩, ⟨trivial, ⟨trivial, trivial⟩⟩⟩⟩⟩) t14 (by kernel_rfl)
    (all_ins (Q := fun i sh => ∀ ls, fillA sh ls (fun args h => fnK (ckOf es14) (okOf os14) sf14 kc14 args h (findRes aout14 0) none) none = g14 (i, ls)) (l := ain14) ⟨fun ls => by kernel_rfl, trivial⟩)
/-! function 7 -/
def es7 : List (FuncId × Ent) := [(14, ent14)]
theorem ck7 (n : Nat) : CallKOk (ckOf es7) (evF tab (n + 2)) :=
  ckOf_cons (ok14 (n + 0)) (ckOf_nil)
def kc7_0 : KC := (.seq (.seq (.seq (.reg r7_7) (.cond (.t 36) .skip (.seq (.kill [0, 5, 6, 10, 36]) (.exit 2)))) (.block 3 (.reg r7_8))) (.kill [0, 10, 36]))
def in7_0 : List SPat := [⟨[(0, .unk), (1, (.ptr 0 (.c 0))), (2, (.ptr 1 (.c 0))), (3, (.int .i64)), (4, (.ptr 2 (.c 0))), (5, (.int .i64)), (6, (.int .i64)), (9, (.int .i64)), (10, .unk), (36, .unk)], [(true, (.ints .i64)), (true, (.intsE .i64 4)), (true, (.ints .i64))], [], 0⟩]
def out7_0 : List (SX × SPat) := [((.exit 2), ⟨[(0, .unk), (1, (.ptr 0 (.c 0))), (2, (.ptr 1 (.c 0))), (3, (.int .i64)), (4, (.ptr 2 (.c 0))), (5, .unk), (6, .unk), (9, (.int .i64)), (10, .unk), (36, .unk)], [(true, (.ints .i64)), (true, (.intsE .i64 4)), (true, (.ints .i64))], [], 0⟩)]
def f7_0_0 (t3 : Int) (t5 : Int) (t6 : Int) (t9 : Int) (h0 : List Int) (h1_0 : Int) (h1_1 : Int) (h1_2 : Int) (h1_3 : Int) (h2 : List Int) : Option (Nat × List Leaf) :=
  cond (Decidable.decide ((0 : Int) < t6)) (if (0 : Int) ≤ t5 ∧ t5 < (4 : Int) then optK (h2[Int.toNat t5]?) (fun x1 => cond (Decidable.decide (x1 < (3 : Int))) (if (0 : Int) ≤ t5 ∧ t5 < (4 : Int) then optK (h2[Int.toNat t5]?) (fun x2 => if Go.IntKind.wrap Go.IntKind.i64 (x2 + (1 : Int)) < (0 : Int) then none else cond (Decidable.decide (Go.Sx.shlI Go.IntKind.i64 t6 (Go.IntKind.wrap Go.IntKind.i64 (x2 + (1 : Int))) ≤ t3)) (if (0 : Int) ≤ t5 ∧ t5 < (4 : Int) then optK (h2[Int.toNat t5]?) (fun x3 => if (0 : Int) ≤ t5 ∧ t5 < (4 : Int) then if Int.toNat t5 < List.length h2 then some (0, [.i (t3), .i (t5), .i (t6), .i (t9), .l (h0), .i (h1_0), .i (h1_1), .i (h1_2), .i (h1_3), .l (List.set h2 (Int.toNat t5) (Go.IntKind.wrap Go.IntKind.i64 (x3 + (1 : Int))))]) else none else none) (none) else none) (some (1, [.i (t3), .i (t9), .l (h0), .i (h1_0), .i (h1_1), .i (h1_2), .i (h1_3), .l (h2)]))) (none) else none) (some (1, [.i (t3), .i (t9), .l (h0), .i (h1_0), .i (h1_1), .i (h1_2), .i (h1_3), .l (h2)]))) (none) else none) (some (1, [.i (t3), .i (t9), .l (h0), .i (h1_0), .i (h1_1), .i (h1_2), .i (h1_3), .l (h2)]))
def f7_0 (s : Nat × List Leaf) : Option (Nat × List Leaf) := match s.1 with
  | 0 => let r := s.2; asI r (fun t3 r => asI r (fun t5 r => asI r (fun t6 r => asI r (fun t9 r => asL r (fun h0 r => asI r (fun h1_0 r => asI r (fun h1_1 r => asI r (fun h1_2 r => asI r (fun h1_3 r => asL r (fun h2 r => asE r (f7_0_0 t3 t5 t6 t9 h0 h1_0 h1_1 h1_2 h1_3 h2) none) none) none) none) none) none) none) none) none) none) none
  | _ => none
def L7_0 (s : Nat × List Leaf) : Option (Nat × List Leaf) := loopL 1 f7_0 s
def orc7_0 : Orc := ⟨in7_0, out7_0, L7_0⟩
def os7_0 : List Orc := []
theorem snd7_0 (n : Nat) : OrcSound (evF tab (n + 2)) (.loop l7_9) orc7_0 :=
  loop_sound (b := kc7_0) (OK := okOf os7_0) (ck7 n) (show OrcsOk (okOf os7_0) (evF tab (n + 2)) kc7_0 from ⟨⟨⟨trivial, ⟨trivial, ⟨trivial, trivial⟩⟩⟩, trivial⟩, trivial⟩) (ins := in7_0) (outs := out7_0) (f := f7_0) (by kernel_rfl)
    (all_ins (Q := fun i sh => ∀ ls, fillS sh ls (fun st => evK (ckOf es7) (okOf os7_0) kc7_0 st (findOut (in7_0.map (SX.normal, ·) ++ out7_0) 0) none) none = f7_0 (i, ls)) (l := in7_0) ⟨fun ls => by kernel_rfl, trivial⟩)
def kc7_1 : KC := (.seq (.seq (.reg r7_4) (.seq (.cond (.t 10) .skip (.seq (.kill [0, 1, 3, 5, 6, 9, 10, 36]) (.exit 0))) (.seq (.block 1 (.seq (.reg r7_5) (.seq (.reg r7_6) (.block 2 (.seq (.kill [0, 10, 36]) (.orc 0 (.loop l7_9))))))) (.reg r7_10)))) (.kill [0, 5, 6, 10, 36]))
def in7_1 : List SPat := [⟨[(0, .unk), (1, (.ptr 0 (.c 0))), (2, (.ptr 1 (.c 0))), (3, (.int .i64)), (4, (.ptr 2 (.c 0))), (5, .unk), (6, .unk), (9, (.int .i64)), (10, .unk), (36, .unk)], [(true, (.ints .i64)), (true, (.intsE .i64 4)), (true, (.ints .i64))], [], 0⟩]
def out7_1 : List (SX × SPat) := [((.exit 0), ⟨[(0, .unk), (1, .unk), (2, (.ptr 1 (.c 0))), (3, .unk), (4, (.ptr 2 (.c 0))), (5, .unk), (6, .unk), (9, .unk), (10, .unk), (36, .unk)], [(true, (.ints .i64)), (true, (.intsE .i64 4)), (true, (.ints .i64))], [], 0⟩)]
def f7_1_0 (t3 : Int) (t9 : Int) (h0 : List Int) (h1_0 : Int) (h1_1 : Int) (h1_2 : Int) (h1_3 : Int) (h2 : List Int) : Option (Nat × List Leaf) :=
  cond (Decidable.decide (t9 < (4 : Int))) (if (0 : Int) ≤ Go.IntKind.wrap Go.IntKind.i64 (Go.IntKind.wrap Go.IntKind.i64 (t9 + (1 : Int)) * (4 : Int)) ∧ Go.IntKind.wrap Go.IntKind.i64 (Go.IntKind.wrap Go.IntKind.i64 (t9 + (1 : Int)) * (4 : Int)) ≤ (16 : Int) then if (0 : Int) ≤ Go.IntKind.wrap Go.IntKind.i64 (t9 * (4 : Int)) ∧ Go.IntKind.wrap Go.IntKind.i64 (t9 * (4 : Int)) ≤ (↑(Int.toNat (Go.IntKind.wrap Go.IntKind.i64 (Go.IntKind.wrap Go.IntKind.i64 (t9 + (1 : Int)) * (4 : Int)))) : Int) then if (16 : Nat) ≤ List.length h0 then altK (g14 (0, [.n (Int.toNat (Go.IntKind.wrap Go.IntKind.i64 (t9 * (4 : Int)))), .n (Int.toNat (Go.IntKind.wrap Go.IntKind.i64 (Go.IntKind.wrap Go.IntKind.i64 (t9 + (1 : Int)) * (4 : Int))) - Int.toNat (Go.IntKind.wrap Go.IntKind.i64 (t9 * (4 : Int)))), .l (h0)])) [fun r => asI r (fun x1 r => asL r (fun x1h0 r => asE r (altK (L7_0 (0, [.i (t3), .i (t9), .i (x1), .i (t9), .l (x1h0), .i (h1_0), .i (h1_1), .i (h1_2), .i (h1_3), .l (h2)])) [fun r => asI r (fun x5 r => asI r (fun x9 r => asL r (fun x12h0 r => asI r (fun x12h1_0 r => asI r (fun x12h1_1 r => asI r (fun x12h1_2 r => asI r (fun x12h1_3 r => asL r (fun x12h2 r => asE r (some (0, [.i (x5), .i (Go.IntKind.wrap Go.IntKind.i64 (x9 + (1 : Int))), .l (x12h0), .i (x12h1_0), .i (x12h1_1), .i (x12h1_2), .i (x12h1_3), .l (x12h2)])) none) none) none) none) none) none) none) none) none] none) none) none) none] none else none else none else none) (some (1, [.l (h0), .i (h1_0), .i (h1_1), .i (h1_2), .i (h1_3), .l (h2)]))
def f7_1 (s : Nat × List Leaf) : Option (Nat × List Leaf) := match s.1 with
  | 0 => let r := s.2; asI r (fun t3 r => asI r (fun t9 r => asL r (fun h0 r => asI r (fun h1_0 r => asI r (fun h1_1 r => asI r (fun h1_2 r => asI r (fun h1_3 r => asL r (fun h2 r => asE r (f7_1_0 t3 t9 h0 h1_0 h1_1 h1_2 h1_3 h2) none) none) none) none) none) none) none) none) none
  | _ => none
def L7_1 (s : Nat × List Leaf) : Option (Nat × List Leaf) := loopL 1 f7_1 s
def orc7_1 : Orc := ⟨in7_1, out7_1, L7_1⟩
def os7_1 : List Orc := [orc7_0]
theorem snd7_1 (n : Nat) : OrcSound (evF tab (n + 2)) (.loop l7_11) orc7_1 :=
  loop_sound (b := kc7_1) (OK := okOf os7_1) (ck7 n) (show OrcsOk (okOf os7_1) (evF tab (n + 2)) kc7_1 from ⟨⟨trivial, ⟨⟨trivial, ⟨trivial, trivial⟩⟩, ⟨⟨trivial, ⟨trivial, ⟨trivial, (okOf_ok (os := os7_1) (i := 0) (o := orc7_0) rfl (snd7_0 n))⟩⟩⟩, trivial⟩⟩⟩, trivial⟩) (ins := in7_1) (outs := out7_1) (f := f7_1) (by kernel_rfl)
    (all_ins (Q := fun i sh => ∀ ls, fillS sh ls (fun st => evK (ckOf es7) (okOf os7_1) kc7_1 st (findOut (in7_1.map (SX.normal, ·) ++ out7_1) 0) none) none = f7_1 (i, ls)) (l := in7_1) ⟨fun ls => by kernel_rfl, trivial⟩)
def kc7 : KC := (.seq (.reg r7_0) (.seq (.reg r7_1) (.seq (.reg r7_2) (.seq (.seq (.reg r7_3) (.block 0 (.seq (.kill [0, 5, 6, 10, 36]) (.orc 1 (.loop l7_11))))) (.seq (.reg r7_12) (.seq (.kill [0, 1, 3, 4, 5, 6, 9, 10, 36]) .ret))))))
def ain7 : List APat := [⟨[(.ints .i64)], []⟩]
def aout7 : List RPat := [⟨(.ints .i64), [], []⟩]
def g7_0 (a0 : List Int) : Option (Nat × List Leaf) :=
  if (16 : Nat) ≤ List.length a0 then altK (g14 (0, [.n ((0 : Nat)), .n ((16 : Nat)), .l (a0)])) [fun r => asI r (fun x1 r => asL r (fun x1h0 r => asE r (altK (L7_1 (0, [.i (x1), .i ((0 : Int)), .l (x1h0), .i ((0 : Int)), .i ((0 : Int)), .i ((0 : Int)), .i ((0 : Int)), .l ([(0 : Int), (0 : Int), (0 : Int), (0 : Int)])])) [fun r => asL r (fun x12h0 r => asI r (fun x12h1_0 r => asI r (fun x12h1_1 r => asI r (fun x12h1_2 r => asI r (fun x12h1_3 r => asL r (fun x12h2 r => asE r (if (4 : Nat) ≤ List.length x12h2 then if List.length (List.take (4 : Nat) x12h2) = (4 : Nat) then if (0 : Nat) + List.length (List.take (4 : Nat) x12h2) ≤ List.length [x12h1_0, x12h1_1, x12h1_2, x12h1_3] then if (4 : Nat) ≤ List.length (List.take (4 : Nat) x12h2 ++ List.drop ((0 : Nat) + List.length (List.take (4 : Nat) x12h2)) [x12h1_0, x12h1_1, x12h1_2, x12h1_3]) then some (0, [.l (List.take (4 : Nat) (List.take (4 : Nat) x12h2 ++ List.drop ((0 : Nat) + List.length (List.take (4 : Nat) x12h2)) [x12h1_0, x12h1_1, x12h1_2, x12h1_3]))]) else none else none else none else none) none) none) none) none) none) none) none] none) none) none) none] none else none
def g7 (s : Nat × List Leaf) : Option (Nat × List Leaf) := match s.1 with
  | 0 => let r := s.2; asL r (fun a0 r => asE r (g7_0 a0) none) none
  | _ => none
def ent7 : Ent := ⟨ain7, aout7, g7⟩
def os7 : List Orc := [orc7_0, orc7_1]
theorem ok7 (n : Nat) : EntSound (evF tab (n + 3)) 7 ent7 :=
  fn_sound (n := n + 2) (ck7 n) (OK := okOf os7) (body := kc7) (show OrcsOk (okOf os7) (evF tab (n + 2)) kc7 from ⟨trivial, ⟨trivial, ⟨trivial, ⟨⟨trivial, ⟨trivial, (okOf_ok (os := os7) (i := 1) (o := orc7_1) rfl (snd7_1 n))⟩⟩, ⟨trivial, ⟨trivial, trivial⟩⟩⟩⟩⟩⟩) t7 (by kernel_rfl)
    (all_ins (Q := fun i sh => ∀ ls, fillA sh ls (fun args h => fnK (ckOf es7) (okOf os7) sf7 kc7 args h (findRes aout7 0) none) none = g7 (i, ls)) (l := ain7) ⟨fun ls => by kernel_rfl, trivial⟩)
/-! function 10 -/
def es10 : List (FuncId × Ent) := []
theorem ck10 (n : Nat) : CallKOk (ckOf es10) (evF tab (n + 0)) :=
  ckOf_nil
def kc10_0 : KC := (.seq (.seq (.reg r10_2) (.seq (.cond (.t 7) .skip (.seq (.kill [0, 1, 2, 4, 5, 6, 7, 14]) (.exit 0))) (.seq (.block 1 (.seq (.reg r10_3) (.seq (.reg r10_4) (.cond (.t 14) (.seq (.reg r10_5) (.seq (.kill [0, 1, 4, 5, 6, 7, 14]) .ret)) .skip)))) (.reg r10_6)))) (.kill [0, 1, 2, 4, 7, 14]))
def in10_0 : List SPat := [⟨[(0, .unk), (1, .unk), (2, .unk), (4, .unk), (5, (.ints .i64)), (6, (.int .i64)), (7, .unk), (14, .unk)], [(true, (.ints .i64))], [], 0⟩]
def out10_0 : List (SX × SPat) := [((.exit 0), ⟨[(0, .unk), (1, .unk), (2, .unk), (4, .unk), (5, .unk), (6, .unk), (7, .unk), (14, .unk)], [(true, (.ints .i64))], [], 0⟩), (.ret, ⟨[(0, .unk), (1, .unk), (2, (.cbool false)), (4, .unk), (5, .unk), (6, .unk), (7, .unk), (14, .unk)], [(true, (.ints .i64))], [], 0⟩)]
def f10_0_0 (t5 : List Int) (t6 : Int) (h0 : List Int) : Option (Nat × List Leaf) :=
  cond (Decidable.decide (t6 < (4 : Int))) (if (0 : Int) ≤ t6 ∧ t6 < (4 : Int) then optK (t5[Int.toNat t6]?) (fun x1 => cond (Decidable.decide (x1 < (0 : Int))) (some (2, [.l (h0)])) (cond (Decidable.decide ((3 : Int) < x1)) (some (2, [.l (h0)])) (some (0, [.l (t5), .i (Go.IntKind.wrap Go.IntKind.i64 (t6 + (1 : Int))), .l (h0)])))) (none) else none) (some (1, [.l (h0)]))
def f10_0 (s : Nat × List Leaf) : Option (Nat × List Leaf) := match s.1 with
  | 0 => let r := s.2; asL r (fun t5 r => asI r (fun t6 r => asL r (fun h0 r => asE r (f10_0_0 t5 t6 h0) none) none) none) none
  | _ => none
def L10_0 (s : Nat × List Leaf) : Option (Nat × List Leaf) := loopL 1 f10_0 s
def orc10_0 : Orc := ⟨in10_0, out10_0, L10_0⟩
def os10_0 : List Orc := []
theorem snd10_0 (n : Nat) : OrcSound (evF tab (n + 0)) (.loop l10_7) orc10_0 :=
  loop_sound (b := kc10_0) (OK := okOf os10_0) (ck10 n) (show OrcsOk (okOf os10_0) (evF tab (n + 0)) kc10_0 from ⟨⟨trivial, ⟨⟨trivial, ⟨trivial, trivial⟩⟩, ⟨⟨trivial, ⟨trivial, ⟨⟨trivial, ⟨trivial, trivial⟩⟩, trivial⟩⟩⟩, trivial⟩⟩⟩, trivial⟩) (ins := in10_0) (outs := out10_0) (f := f10_0) (by kernel_rfl)
    (all_ins (Q := fun i sh => ∀ ls, fillS sh ls (fun st => evK (ckOf es10) (okOf os10_0) kc10_0 st (findOut (in10_0.map (SX.normal, ·) ++ out10_0) 0) none) none = f10_0 (i, ls)) (l := in10_0) ⟨fun ls => by kernel_rfl, trivial⟩)
def kc10 : KC := (.seq (.reg r10_0) (.seq (.seq (.reg r10_1) (.block 0 (.seq (.kill [0, 1, 2, 4, 7, 14]) (.orc 0 (.loop l10_7))))) (.seq (.reg r10_8) (.seq (.kill [0, 1, 4, 5, 6, 7, 14]) .ret))))
def ain10 : List APat := [⟨[(.ints .i64)], []⟩]
def aout10 : List RPat := [⟨.bool, [], []⟩]
def g10_0 (a0 : List Int) : Option (Nat × List Leaf) :=
  if (4 : Nat) ≤ List.length a0 then altK (L10_0 (0, [.l (List.take (4 : Nat) a0), .i ((0 : Int)), .l (a0)])) [fun r => asL r (fun x9h0 r => asE r (some (0, [.b (Bool.true)])) none) none, fun r => asL r (fun x18h0 r => asE r (some (0, [.b (Bool.false)])) none) none] none else none
def g10 (s : Nat × List Leaf) : Option (Nat × List Leaf) := match s.1 with
  | 0 => let r := s.2; asL r (fun a0 r => asE r (g10_0 a0) none) none
  | _ => none
def ent10 : Ent := ⟨ain10, aout10, g10⟩
def os10 : List Orc := [orc10_0]
theorem ok10 (n : Nat) : EntSound (evF tab (n + 1)) 10 ent10 :=
  fn_sound (n := n + 0) (ck10 n) (OK := okOf os10) (body := kc10) (show OrcsOk (okOf os10) (evF tab (n + 0)) kc10 from ⟨trivial, ⟨⟨trivial, ⟨trivial, (okOf_ok (os := os10) (i := 0) (o := orc10_0) rfl (snd10_0 n))⟩⟩, ⟨trivial, ⟨trivial, trivial⟩⟩⟩⟩) t10 (by kernel_rfl)
    (all_ins (Q := fun i sh => ∀ ls, fillA sh ls (fun args h => fnK (ckOf es10) (okOf os10) sf10 kc10 args h (findRes aout10 0) none) none = g10 (i, ls)) (l := ain10) ⟨fun ls => by kernel_rfl, trivial⟩)
/-! function 12 -/
def es12 : List (FuncId × Ent) := [(10, ent10)]
theorem ck12 (n : Nat) : CallKOk (ckOf es12) (evF tab (n + 1)) :=
  ckOf_cons (ok10 (n + 0)) (ckOf_nil)
def kc12 : KC := (.seq (.reg r12_0) (.seq (.seq (.reg r12_1) (.cond (.t 15) (.seq (.reg r12_2) (.seq (.kill [0, 1, 2, 15]) .ret)) .skip)) (.seq (.reg r12_3) (.seq (.kill [0, 1, 2, 15]) .ret))))
def ain12 : List APat := [⟨[(.ints .i64), (.int .i64)], []⟩]
def aout12 : List RPat := [⟨(.int .i64), [], []⟩]
def g12_0 (a0 : List Int) (a1 : Int) : Option (Nat × List Leaf) :=
  cond (Decidable.decide (a1 < (0 : Int))) (some (0, [.i ((0 : Int))])) (cond (Decidable.decide ((16 : Int) ≤ a1)) (some (0, [.i ((0 : Int))])) (if (4 : Nat) ≤ List.length a0 then altK (g10 (0, [.l (List.take (4 : Nat) a0)])) [fun r => asB r (fun x1 r => asE r (cond (!x1) (some (0, [.i ((0 : Int))])) (if (0 : Int) ≤ Go.IntKind.wrap Go.IntKind.i64 (Int.tdiv a1 (4 : Int)) ∧ Go.IntKind.wrap Go.IntKind.i64 (Int.tdiv a1 (4 : Int)) < (4 : Int) then optK (a0[Int.toNat (Go.IntKind.wrap Go.IntKind.i64 (Int.tdiv a1 (4 : Int)))]?) (fun x2 => some (0, [.i (x2)])) (none) else none)) none) none] none else none))
def g12 (s : Nat × List Leaf) : Option (Nat × List Leaf) := match s.1 with
  | 0 => let r := s.2; asL r (fun a0 r => asI r (fun a1 r => asE r (g12_0 a0 a1) none) none) none
  | _ => none
def ent12 : Ent := ⟨ain12, aout12, g12⟩
def os12 : List Orc := []
theorem ok12 (n : Nat) : EntSound (evF tab (n + 2)) 12 ent12 :=
  fn_sound (n := n + 1) (ck12 n) (OK := okOf os12) (body := kc12) (show OrcsOk (okOf os12) (evF tab (n + 1)) kc12 from ⟨trivial, ⟨⟨trivial, ⟨⟨trivial, ⟨trivial, trivial⟩⟩, trivial⟩⟩, ⟨trivial, ⟨trivial, trivial⟩⟩⟩⟩) t12 (by kernel_rfl)
    (all_ins (Q := fun i sh => ∀ ls, fillA sh ls (fun args h => fnK (ckOf es12) (okOf os12) sf12 kc12 args h (findRes aout12 0) none) none = g12 (i, ls)) (l := ain12) ⟨fun ls => by kernel_rfl, trivial⟩)
/-! function 13 -/
def es13 : List (FuncId × Ent) := []
theorem ck13 (n : Nat) : CallKOk (ckOf es13) (evF tab (n + 0)) :=
  ckOf_nil
def kc13 : KC := (.seq (.reg r13_0) (.seq (.reg r13_1) (.seq (.kill [0, 1]) .ret)))
def ain13 : List APat := [⟨[(.ints .i64)], []⟩]
def aout13 : List RPat := [⟨.bool, [], []⟩]
def g13_0 (a0 : List Int) : Option (Nat × List Leaf) :=
  if (4 : Nat) ≤ List.length a0 then if List.length (List.take (4 : Nat) a0) = (4 : Nat) then some (0, [.b (Decidable.decide (List.take (4 : Nat) a0 = [(0 : Int), (0 : Int), (0 : Int), (0 : Int)]))]) else none else none
def g13 (s : Nat × List Leaf) : Option (Nat × List Leaf) := match s.1 with
  | 0 => let r := s.2; asL r (fun a0 r => asE r (g13_0 a0) none) none
  | _ => none
def ent13 : Ent := ⟨ain13, aout13, g13⟩
def os13 : List Orc := []
theorem ok13 (n : Nat) : EntSound (evF tab (n + 1)) 13 ent13 :=
  fn_sound (n := n + 0) (ck13 n) (OK := okOf os13) (body := kc13) (show OrcsOk (okOf os13) (evF tab (n + 0)) kc13 from ⟨trivial, ⟨trivial, ⟨trivial, trivial⟩⟩⟩) t13 (by kernel_rfl)
    (all_ins (Q := fun i sh => ∀ ls, fillA sh ls (fun args h => fnK (ckOf es13) (okOf os13) sf13 kc13 args h (findRes aout13 0) none) none = g13 (i, ls)) (l := ain13) ⟨fun ls => by kernel_rfl, trivial⟩)
/-! function 5 -/
def es5 : List (FuncId × Ent) := []
theorem ck5 (n : Nat) : CallKOk (ckOf es5) (evF tab (n + 0)) :=
  ckOf_nil
def kc5_0 : KC := (.seq (.seq (.seq (.reg r5_2) (.cond (.t 5) .skip (.seq (.kill [0, 1, 2, 3, 5, 17]) (.exit 0)))) (.seq (.block 1 (.seq (.reg r5_3) (.cond (.t 17) (.seq (.reg r5_4) (.seq (.kill [0, 1, 3, 5, 17]) .ret)) .skip))) (.reg r5_5))) (.kill [0, 2, 5, 17]))
def in5_0 : List SPat := [⟨[(0, .unk), (1, (.ptr 0 (.c 0))), (2, .unk), (3, (.int .i64)), (5, .unk), (17, .unk)], [(true, (.ints .i64))], [], 0⟩]
def out5_0 : List (SX × SPat) := [((.exit 0), ⟨[(0, .unk), (1, .unk), (2, .unk), (3, .unk), (5, .unk), (17, .unk)], [(true, (.ints .i64))], [], 0⟩), (.ret, ⟨[(0, .unk), (1, .unk), (2, (.cbool false)), (3, .unk), (5, .unk), (17, .unk)], [(true, (.ints .i64))], [], 0⟩)]
def f5_0_0 (t3 : Int) (h0 : List Int) : Option (Nat × List Leaf) :=
  cond (Decidable.decide (t3 < (16 : Int))) (if (0 : Int) ≤ t3 ∧ t3 < (16 : Int) then optK (h0[Int.toNat t3]?) (fun x1 => cond (Decidable.decide (x1 < (-1099511627776 : Int))) (some (2, [.l (h0)])) (if (0 : Int) ≤ t3 ∧ t3 < (16 : Int) then optK (h0[Int.toNat t3]?) (fun x2 => cond (Decidable.decide ((1099511627776 : Int) < x2)) (some (2, [.l (h0)])) (some (0, [.i (Go.IntKind.wrap Go.IntKind.i64 (t3 + (1 : Int))), .l (h0)]))) (none) else none)) (none) else none) (some (1, [.l (h0)]))
def f5_0 (s : Nat × List Leaf) : Option (Nat × List Leaf) := match s.1 with
  | 0 => let r := s.2; asI r (fun t3 r => asL r (fun h0 r => asE r (f5_0_0 t3 h0) none) none) none
  | _ => none
def L5_0 (s : Nat × List Leaf) : Option (Nat × List Leaf) := loopL 1 f5_0 s
def orc5_0 : Orc := ⟨in5_0, out5_0, L5_0⟩
def os5_0 : List Orc := []
theorem snd5_0 (n : Nat) : OrcSound (evF tab (n + 0)) (.loop l5_6) orc5_0 :=
  loop_sound (b := kc5_0) (OK := okOf os5_0) (ck5 n) (show OrcsOk (okOf os5_0) (evF tab (n + 0)) kc5_0 from ⟨⟨⟨trivial, ⟨trivial, ⟨trivial, trivial⟩⟩⟩, ⟨⟨trivial, ⟨⟨trivial, ⟨trivial, trivial⟩⟩, trivial⟩⟩, trivial⟩⟩, trivial⟩) (ins := in5_0) (outs := out5_0) (f := f5_0) (by kernel_rfl)
    (all_ins (Q := fun i sh => ∀ ls, fillS sh ls (fun st => evK (ckOf es5) (okOf os5_0) kc5_0 st (findOut (in5_0.map (SX.normal, ·) ++ out5_0) 0) none) none = f5_0 (i, ls)) (l := in5_0) ⟨fun ls => by kernel_rfl, trivial⟩)
def kc5 : KC := (.seq (.reg r5_0) (.seq (.seq (.reg r5_1) (.block 0 (.seq (.kill [0, 2, 5, 17]) (.orc 0 (.loop l5_6))))) (.seq (.reg r5_7) (.seq (.kill [0, 1, 3, 5, 17]) .ret))))
def ain5 : List APat := [⟨[(.ints .i64)], []⟩]
def aout5 : List RPat := [⟨.bool, [], []⟩]
def g5_0 (a0 : List Int) : Option (Nat × List Leaf) :=
  altK (L5_0 (0, [.i ((0 : Int)), .l (a0)])) [fun r => asL r (fun x7h0 r => asE r (some (0, [.b (Bool.true)])) none) none, fun r => asL r (fun x14h0 r => asE r (some (0, [.b (Bool.false)])) none) none] none
def g5 (s : Nat × List Leaf) : Option (Nat × List Leaf) := match s.1 with
  | 0 => let r := s.2; asL r (fun a0 r => asE r (g5_0 a0) none) none
  | _ => none
def ent5 : Ent := ⟨ain5, aout5, g5⟩
def os5 : List Orc := [orc5_0]
theorem ok5 (n : Nat) : EntSound (evF tab (n + 1)) 5 ent5 :=
  fn_sound (n := n + 0) (ck5 n) (OK := okOf os5) (body := kc5) (show OrcsOk (okOf os5) (evF tab (n + 0)) kc5 from ⟨trivial, ⟨⟨trivial, ⟨trivial, (okOf_ok (os := os5) (i := 0) (o := orc5_0) rfl (snd5_0 n))⟩⟩, ⟨trivial, ⟨trivial, trivial⟩⟩⟩⟩) t5 (by kernel_rfl)
    (all_ins (Q := fun i sh => ∀ ls, fillA sh ls (fun args h => fnK (ckOf es5) (okOf os5) sf5 kc5 args h (findRes aout5 0) none) none = g5 (i, ls)) (l := ain5) ⟨fun ls => by kernel_rfl, trivial⟩)
/-! function 8 -/
def es8 : List (FuncId × Ent) := []
theorem ck8 (n : Nat) : CallKOk (ckOf es8) (evF tab (n + 0)) :=
  ckOf_nil
def kc8_0 : KC := (.seq (.seq (.seq (.reg r8_3) (.cond (.t 12) .skip (.seq (.kill [0, 1, 2, 3, 6, 8, 12, 19, 28]) (.exit 0)))) (.seq (.block 1 (.seq (.seq (.reg r8_4) (.cond (.t 19) (.reg r8_5) .skip)) (.seq (.reg r8_6) (.cond (.t 28) (.reg r8_7) .skip)))) (.reg r8_8))) (.kill [0, 1, 6, 12, 19, 28]))
def in8_0 : List SPat := [⟨[(0, .unk), (1, .unk), (2, (.int .i64)), (3, (.ptr 0 (.c 0))), (6, .unk), (7, (.int .i64)), (8, (.int .i64)), (12, .unk), (19, .unk), (28, .unk)], [(true, (.ints .i64))], [], 0⟩]
def out8_0 : List (SX × SPat) := [((.exit 0), ⟨[(0, .unk), (1, .unk), (2, .unk), (3, .unk), (6, .unk), (7, (.int .i64)), (8, .unk), (12, .unk), (19, .unk), (28, .unk)], [(true, (.ints .i64))], [], 0⟩)]
def f8_0_0 (t2 : Int) (t7 : Int) (t8 : Int) (h0 : List Int) : Option (Nat × List Leaf) :=
  cond (Decidable.decide (t8 < t2)) (if (0 : Int) ≤ t8 ∧ t8 < (16 : Int) then optK (h0[Int.toNat t8]?) (fun x1 => cond (Decidable.decide (t7 < x1)) (if (0 : Int) ≤ t8 ∧ t8 < (16 : Int) then optK (h0[Int.toNat t8]?) (fun x4 => if (0 : Int) ≤ t8 ∧ t8 < (16 : Int) then optK (h0[Int.toNat t8]?) (fun x5 => cond (Decidable.decide (x4 < Go.IntKind.wrap Go.IntKind.i64 ((0 : Int) - x5))) (if (0 : Int) ≤ t8 ∧ t8 < (16 : Int) then optK (h0[Int.toNat t8]?) (fun x6 => some (0, [.i (t2), .i (Go.IntKind.wrap Go.IntKind.i64 ((0 : Int) - x6)), .i (Go.IntKind.wrap Go.IntKind.i64 (t8 + (1 : Int))), .l (h0)])) (none) else none) (some (0, [.i (t2), .i (x4), .i (Go.IntKind.wrap Go.IntKind.i64 (t8 + (1 : Int))), .l (h0)]))) (none) else none) (none) else none) (if (0 : Int) ≤ t8 ∧ t8 < (16 : Int) then optK (h0[Int.toNat t8]?) (fun x2 => cond (Decidable.decide (t7 < Go.IntKind.wrap Go.IntKind.i64 ((0 : Int) - x2))) (if (0 : Int) ≤ t8 ∧ t8 < (16 : Int) then optK (h0[Int.toNat t8]?) (fun x3 => some (0, [.i (t2), .i (Go.IntKind.wrap Go.IntKind.i64 ((0 : Int) - x3)), .i (Go.IntKind.wrap Go.IntKind.i64 (t8 + (1 : Int))), .l (h0)])) (none) else none) (some (0, [.i (t2), .i (t7), .i (Go.IntKind.wrap Go.IntKind.i64 (t8 + (1 : Int))), .l (h0)]))) (none) else none)) (none) else none) (some (1, [.i (t7), .l (h0)]))
def f8_0 (s : Nat × List Leaf) : Option (Nat × List Leaf) := match s.1 with
  | 0 => let r := s.2; asI r (fun t2 r => asI r (fun t7 r => asI r (fun t8 r => asL r (fun h0 r => asE r (f8_0_0 t2 t7 t8 h0) none) none) none) none) none
  | _ => none
def L8_0 (s : Nat × List Leaf) : Option (Nat × List Leaf) := loopL 1 f8_0 s
def orc8_0 : Orc := ⟨in8_0, out8_0, L8_0⟩
def os8_0 : List Orc := []
theorem snd8_0 (n : Nat) : OrcSound (evF tab (n + 0)) (.loop l8_9) orc8_0 :=
  loop_sound (b := kc8_0) (OK := okOf os8_0) (ck8 n) (show OrcsOk (okOf os8_0) (evF tab (n + 0)) kc8_0 from ⟨⟨⟨trivial, ⟨trivial, ⟨trivial, trivial⟩⟩⟩, ⟨⟨⟨trivial, ⟨trivial, trivial⟩⟩, ⟨trivial, ⟨trivial, trivial⟩⟩⟩, trivial⟩⟩, trivial⟩) (ins := in8_0) (outs := out8_0) (f := f8_0) (by kernel_rfl)
    (all_ins (Q := fun i sh => ∀ ls, fillS sh ls (fun st => evK (ckOf es8) (okOf os8_0) kc8_0 st (findOut (in8_0.map (SX.normal, ·) ++ out8_0) 0) none) none = f8_0 (i, ls)) (l := in8_0) ⟨fun ls => by kernel_rfl, trivial⟩)
def kc8 : KC := (.seq (.reg r8_0) (.seq (.reg r8_1) (.seq (.seq (.reg r8_2) (.block 0 (.seq (.kill [0, 1, 6, 12, 19, 28]) (.orc 0 (.loop l8_9))))) (.seq (.reg r8_10) (.seq (.kill [0, 1, 2, 3, 7, 8, 12, 19, 28]) .ret)))))
def ain8 : List APat := [⟨[(.ints .i64), (.int .i64), (.int .i64)], []⟩]
def aout8 : List RPat := [⟨(.int .i64), [], []⟩]
def g8_0 (a0 : List Int) (a1 : Int) (a2 : Int) : Option (Nat × List Leaf) :=
  altK (L8_0 (0, [.i (a2), .i ((0 : Int)), .i (a1), .l (a0)])) [fun r => asI r (fun x6 r => asL r (fun x11h0 r => asE r (some (0, [.i (x6)])) none) none) none] none
def g8 (s : Nat × List Leaf) : Option (Nat × List Leaf) := match s.1 with
  | 0 => let r := s.2; asL r (fun a0 r => asI r (fun a1 r => asI r (fun a2 r => asE r (g8_0 a0 a1 a2) none) none) none) none
  | _ => none
def ent8 : Ent := ⟨ain8, aout8, g8⟩
def os8 : List Orc := [orc8_0]
theorem ok8 (n : Nat) : EntSound (evF tab (n + 1)) 8 ent8 :=
  fn_sound (n := n + 0) (ck8 n) (OK := okOf os8) (body := kc8) (show OrcsOk (okOf os8) (evF tab (n + 0)) kc8 from ⟨trivial, ⟨trivial, ⟨⟨trivial, ⟨trivial, (okOf_ok (os := os8) (i := 0) (o := orc8_0) rfl (snd8_0 n))⟩⟩, ⟨trivial, ⟨trivial, trivial⟩⟩⟩⟩⟩) t8 (by kernel_rfl)
    (all_ins (Q := fun i sh => ∀ ls, fillA sh ls (fun args h => fnK (ckOf es8) (okOf os8) sf8 kc8 args h (findRes aout8 0) none) none = g8 (i, ls)) (l := ain8) ⟨fun ls => by kernel_rfl, trivial⟩)
/-! function 9 -/
def es9 : List (FuncId × Ent) := []
theorem ck9 (n : Nat) : CallKOk (ckOf es9) (evF tab (n + 0)) :=
  ckOf_nil
def kc9_0 : KC := (.seq (.seq (.seq (.reg r9_3) (.cond (.t 7) .skip (.seq (.kill [0, 2, 4, 7]) (.exit 0)))) (.seq (.block 1 (.reg r9_4)) (.reg r9_5))) (.kill [2, 7]))
def in9_0 : List SPat := [⟨[(0, (.int .i64)), (2, .unk), (3, (.int .i64)), (4, (.int .i64)), (7, .unk)], [], [], 0⟩]
def out9_0 : List (SX × SPat) := [((.exit 0), ⟨[(0, .unk), (2, .unk), (3, (.int .i64)), (4, .unk), (7, .unk)], [], [], 0⟩)]
def f9_0_0 (t0 : Int) (t3 : Int) (t4 : Int) : Option (Nat × List Leaf) :=
  cond (Decidable.decide (t4 < t0)) (some (0, [.i (t0), .i (Go.IntKind.wrap Go.IntKind.i64 ((2 : Int) * t3)), .i (Go.IntKind.wrap Go.IntKind.i64 (t4 + (1 : Int)))])) (some (1, [.i (t3)]))
def f9_0 (s : Nat × List Leaf) : Option (Nat × List Leaf) := match s.1 with
  | 0 => let r := s.2; asI r (fun t0 r => asI r (fun t3 r => asI r (fun t4 r => asE r (f9_0_0 t0 t3 t4) none) none) none) none
  | _ => none
def L9_0 (s : Nat × List Leaf) : Option (Nat × List Leaf) := loopL 1 f9_0 s
def orc9_0 : Orc := ⟨in9_0, out9_0, L9_0⟩
def os9_0 : List Orc := []
theorem snd9_0 (n : Nat) : OrcSound (evF tab (n + 0)) (.loop l9_6) orc9_0 :=
  loop_sound (b := kc9_0) (OK := okOf os9_0) (ck9 n) (show OrcsOk (okOf os9_0) (evF tab (n + 0)) kc9_0 from ⟨⟨⟨trivial, ⟨trivial, ⟨trivial, trivial⟩⟩⟩, ⟨trivial, trivial⟩⟩, trivial⟩) (ins := in9_0) (outs := out9_0) (f := f9_0) (by kernel_rfl)
    (all_ins (Q := fun i sh => ∀ ls, fillS sh ls (fun st => evK (ckOf es9) (okOf os9_0) kc9_0 st (findOut (in9_0.map (SX.normal, ·) ++ out9_0) 0) none) none = f9_0 (i, ls)) (l := in9_0) ⟨fun ls => by kernel_rfl, trivial⟩)
def kc9 : KC := (.seq (.reg r9_0) (.seq (.reg r9_1) (.seq (.seq (.reg r9_2) (.block 0 (.seq (.kill [2, 7]) (.orc 0 (.loop l9_6))))) (.seq (.reg r9_7) (.seq (.kill [0, 3, 4, 7]) .ret)))))
def ain9 : List APat := [⟨[(.int .i64)], []⟩]
def aout9 : List RPat := [⟨(.int .i64), [], []⟩]
def g9_0 (a0 : Int) : Option (Nat × List Leaf) :=
  altK (L9_0 (0, [.i (a0), .i ((1 : Int)), .i ((0 : Int))])) [fun r => asI r (fun x3 r => asE r (some (0, [.i (x3)])) none) none] none
def g9 (s : Nat × List Leaf) : Option (Nat × List Leaf) := match s.1 with
  | 0 => let r := s.2; asI r (fun a0 r => asE r (g9_0 a0) none) none
  | _ => none
def ent9 : Ent := ⟨ain9, aout9, g9⟩
def os9 : List Orc := [orc9_0]
theorem ok9 (n : Nat) : EntSound (evF tab (n + 1)) 9 ent9 :=
  fn_sound (n := n + 0) (ck9 n) (OK := okOf os9) (body := kc9) (show OrcsOk (okOf os9) (evF tab (n + 0)) kc9 from ⟨trivial, ⟨trivial, ⟨⟨trivial, ⟨trivial, (okOf_ok (os := os9) (i := 0) (o := orc9_0) rfl (snd9_0 n))⟩⟩, ⟨trivial, ⟨trivial, trivial⟩⟩⟩⟩⟩) t9 (by kernel_rfl)
    (all_ins (Q := fun i sh => ∀ ls, fillA sh ls (fun args h => fnK (ckOf es9) (okOf os9) sf9 kc9 args h (findRes aout9 0) none) none = g9 (i, ls)) (l := ain9) ⟨fun ls => by kernel_rfl, trivial⟩)
/-! function 11 -/
def es11 : List (FuncId × Ent) := []
theorem ck11 (n : Nat) : CallKOk (ckOf es11) (evF tab (n + 0)) :=
  ckOf_nil
def kc11_0 : KC := (.seq (.seq (.seq (.reg r11_2) (.cond (.t 5) .skip (.seq (.kill [0, 1, 2, 3, 5, 17]) (.exit 0)))) (.seq (.block 1 (.seq (.reg r11_3) (.cond (.t 17) (.seq (.reg r11_4) (.seq (.kill [0, 1, 3, 5, 17]) .ret)) .skip))) (.reg r11_5))) (.kill [0, 2, 5, 17]))
def in11_0 : List SPat := [⟨[(0, .unk), (1, (.ptr 0 (.c 0))), (2, .unk), (3, (.int .i64)), (5, .unk), (17, .unk)], [(true, (.ints .i64))], [], 0⟩]
def out11_0 : List (SX × SPat) := [((.exit 0), ⟨[(0, .unk), (1, .unk), (2, .unk), (3, .unk), (5, .unk), (17, .unk)], [(true, (.ints .i64))], [], 0⟩), (.ret, ⟨[(0, .unk), (1, .unk), (2, (.cbool false)), (3, .unk), (5, .unk), (17, .unk)], [(true, (.ints .i64))], [], 0⟩)]
def f11_0_0 (t3 : Int) (h0 : List Int) : Option (Nat × List Leaf) :=
  cond (Decidable.decide (t3 < (4 : Int))) (if (0 : Int) ≤ t3 ∧ t3 < (4 : Int) then optK (h0[Int.toNat t3]?) (fun x1 => cond (Decidable.decide (x1 < (0 : Int))) (some (2, [.l (h0)])) (if (0 : Int) ≤ t3 ∧ t3 < (4 : Int) then optK (h0[Int.toNat t3]?) (fun x2 => cond (Decidable.decide ((3 : Int) < x2)) (some (2, [.l (h0)])) (some (0, [.i (Go.IntKind.wrap Go.IntKind.i64 (t3 + (1 : Int))), .l (h0)]))) (none) else none)) (none) else none) (some (1, [.l (h0)]))
def f11_0 (s : Nat × List Leaf) : Option (Nat × List Leaf) := match s.1 with
  | 0 => let r := s.2; asI r (fun t3 r => asL r (fun h0 r => asE r (f11_0_0 t3 h0) none) none) none
  | _ => none
def L11_0 (s : Nat × List Leaf) : Option (Nat × List Leaf) := loopL 1 f11_0 s
def orc11_0 : Orc := ⟨in11_0, out11_0, L11_0⟩
def os11_0 : List Orc := []
theorem snd11_0 (n : Nat) : OrcSound (evF tab (n + 0)) (.loop l11_6) orc11_0 :=
  loop_sound (b := kc11_0) (OK := okOf os11_0) (ck11 n) (show OrcsOk (okOf os11_0) (evF tab (n + 0)) kc11_0 from ⟨⟨⟨trivial, ⟨trivial, ⟨trivial, trivial⟩⟩⟩, ⟨⟨trivial, ⟨⟨trivial, ⟨trivial, trivial⟩⟩, trivial⟩⟩, trivial⟩⟩, trivial⟩) (ins := in11_0) (outs := out11_0) (f := f11_0) (by kernel_rfl)
    (all_ins (Q := fun i sh => ∀ ls, fillS sh ls (fun st => evK (ckOf es11) (okOf os11_0) kc11_0 st (findOut (in11_0.map (SX.normal, ·) ++ out11_0) 0) none) none = f11_0 (i, ls)) (l := in11_0) ⟨fun ls => by kernel_rfl, trivial⟩)
def kc11 : KC := (.seq (.reg r11_0) (.seq (.seq (.reg r11_1) (.block 0 (.seq (.kill [0, 2, 5, 17]) (.orc 0 (.loop l11_6))))) (.seq (.reg r11_7) (.seq (.kill [0, 1, 3, 5, 17]) .ret))))
def ain11 : List APat := [⟨[(.ints .i64)], []⟩]
def aout11 : List RPat := [⟨.bool, [], []⟩]
def g11_0 (a0 : List Int) : Option (Nat × List Leaf) :=
  altK (L11_0 (0, [.i ((0 : Int)), .l (a0)])) [fun r => asL r (fun x7h0 r => asE r (some (0, [.b (Bool.true)])) none) none, fun r => asL r (fun x14h0 r => asE r (some (0, [.b (Bool.false)])) none) none] none
def g11 (s : Nat × List Leaf) : Option (Nat × List Leaf) := match s.1 with
  | 0 => let r := s.2; asL r (fun a0 r => asE r (g11_0 a0) none) none
  | _ => none
def ent11 : Ent := ⟨ain11, aout11, g11⟩
def os11 : List Orc := [orc11_0]
theorem ok11 (n : Nat) : EntSound (evF tab (n + 1)) 11 ent11 :=
  fn_sound (n := n + 0) (ck11 n) (OK := okOf os11) (body := kc11) (show OrcsOk (okOf os11) (evF tab (n + 0)) kc11 from ⟨trivial, ⟨⟨trivial, ⟨trivial, (okOf_ok (os := os11) (i := 0) (o := orc11_0) rfl (snd11_0 n))⟩⟩, ⟨trivial, ⟨trivial, trivial⟩⟩⟩⟩) t11 (by kernel_rfl)
    (all_ins (Q := fun i sh => ∀ ls, fillA sh ls (fun args h => fnK (ckOf es11) (okOf os11) sf11 kc11 args h (findRes aout11 0) none) none = g11 (i, ls)) (l := ain11) ⟨fun ls => by kernel_rfl, trivial⟩)
/-! function 6: closed -/
theorem ok6 (n : Nat) : EntSound (evF tab (n + 20)) 6 awakeE := awake_sound (by kernel_rfl)
/-! function 4 -/
def es4 : List (FuncId × Ent) := [(10, ent10), (11, ent11), (12, ent12), (13, ent13), (6, awakeE)]
theorem ck4 (n : Nat) : CallKOk (ckOf es4) (evF tab (n + 20)) :=
  ckOf_cons (ok10 (n + 19)) (ckOf_cons (ok11 (n + 19)) (ckOf_cons (ok12 (n + 18)) (ckOf_cons (ok13 (n + 19)) (ckOf_cons (ok6 (n + 0)) (ckOf_nil)))))
def kc4 : KC := (.seq (.reg r4_0) (.seq (.reg r4_1) (.seq (.seq (.reg r4_2) (.cond (.t 15) (.reg r4_3) .skip)) (.seq (.reg r4_4) (.seq (.kill [0, 1, 2, 5, 15]) .ret)))))
def ain4 : List APat := [⟨[(.ints .i64), (.int .i64)], []⟩]
def aout4 : List RPat := [⟨.bool, [], []⟩]
def g4_0 (a0 : List Int) (a1 : Int) : Option (Nat × List Leaf) :=
  cond (Decidable.decide ((0 : Int) ≤ a1)) (cond (Decidable.decide (a1 < (16 : Int))) (if (4 : Nat) ≤ List.length a0 then altK (g11 (0, [.l (List.take (4 : Nat) a0)])) [fun r => asB r (fun x11 r => asE r (cond (x11) (if (0 : Int) ≤ Go.IntKind.wrap Go.IntKind.i64 (Int.tdiv a1 (4 : Int)) ∧ Go.IntKind.wrap Go.IntKind.i64 (Int.tdiv a1 (4 : Int)) < (4 : Int) then optK (a0[Int.toNat (Go.IntKind.wrap Go.IntKind.i64 (Int.tdiv a1 (4 : Int)))]?) (fun x17 => if (4 : Nat) ≤ List.length a0 then altK (g10 (0, [.l (List.take (4 : Nat) a0)])) [fun r => asB r (fun x18 r => asE r (if (4 : Nat) ≤ List.length a0 then altK (g11 (0, [.l (List.take (4 : Nat) a0)])) [fun r => asB r (fun x19 r => asE r (cond (Decidable.decide (x18 = x19)) (if (4 : Nat) ≤ List.length a0 then altK (g12 (0, [.l (List.take (4 : Nat) a0), .i (a1)])) [fun r => asI r (fun x20 r => asE r (cond (Decidable.decide (x20 = x17)) (if (4 : Nat) ≤ List.length a0 then altK (g13 (0, [.l (List.take (4 : Nat) a0)])) [fun r => asB r (fun x21 r => asE r (if (4 : Nat) ≤ List.length a0 then if List.length (List.take (4 : Nat) a0) = (4 : Nat) then cond (Decidable.decide (x21 = Decidable.decide (List.take (4 : Nat) a0 = [(0 : Int), (0 : Int), (0 : Int), (0 : Int)]))) (altK (awakeL (0, [])) [fun r => asB r (fun x22 r => asE r (some (0, [.b (x22)])) none) none] none) (some (0, [.b (Bool.false)])) else none else none) none) none] none else none) (some (0, [.b (Bool.false)]))) none) none] none else none) (some (0, [.b (Bool.false)]))) none) none] none else none) none) none] none else none) (none) else none) (if (4 : Nat) ≤ List.length a0 then altK (g10 (0, [.l (List.take (4 : Nat) a0)])) [fun r => asB r (fun x12 r => asE r (if (4 : Nat) ≤ List.length a0 then altK (g11 (0, [.l (List.take (4 : Nat) a0)])) [fun r => asB r (fun x13 r => asE r (cond (Decidable.decide (x12 = x13)) (if (4 : Nat) ≤ List.length a0 then altK (g12 (0, [.l (List.take (4 : Nat) a0), .i (a1)])) [fun r => asI r (fun x14 r => asE r (cond (Decidable.decide (x14 = (0 : Int))) (if (4 : Nat) ≤ List.length a0 then altK (g13 (0, [.l (List.take (4 : Nat) a0)])) [fun r => asB r (fun x15 r => asE r (if (4 : Nat) ≤ List.length a0 then if List.length (List.take (4 : Nat) a0) = (4 : Nat) then cond (Decidable.decide (x15 = Decidable.decide (List.take (4 : Nat) a0 = [(0 : Int), (0 : Int), (0 : Int), (0 : Int)]))) (altK (awakeL (0, [])) [fun r => asB r (fun x16 r => asE r (some (0, [.b (x16)])) none) none] none) (some (0, [.b (Bool.false)])) else none else none) none) none] none else none) (some (0, [.b (Bool.false)]))) none) none] none else none) (some (0, [.b (Bool.false)]))) none) none] none else none) none) none] none else none)) none) none] none else none) (if (4 : Nat) ≤ List.length a0 then altK (g10 (0, [.l (List.take (4 : Nat) a0)])) [fun r => asB r (fun x6 r => asE r (if (4 : Nat) ≤ List.length a0 then altK (g11 (0, [.l (List.take (4 : Nat) a0)])) [fun r => asB r (fun x7 r => asE r (cond (Decidable.decide (x6 = x7)) (if (4 : Nat) ≤ List.length a0 then altK (g12 (0, [.l (List.take (4 : Nat) a0), .i (a1)])) [fun r => asI r (fun x8 r => asE r (cond (Decidable.decide (x8 = (0 : Int))) (if (4 : Nat) ≤ List.length a0 then altK (g13 (0, [.l (List.take (4 : Nat) a0)])) [fun r => asB r (fun x9 r => asE r (if (4 : Nat) ≤ List.length a0 then if List.length (List.take (4 : Nat) a0) = (4 : Nat) then cond (Decidable.decide (x9 = Decidable.decide (List.take (4 : Nat) a0 = [(0 : Int), (0 : Int), (0 : Int), (0 : Int)]))) (altK (awakeL (0, [])) [fun r => asB r (fun x10 r => asE r (some (0, [.b (x10)])) none) none] none) (some (0, [.b (Bool.false)])) else none else none) none) none] none else none) (some (0, [.b (Bool.false)]))) none) none] none else none) (some (0, [.b (Bool.false)]))) none) none] none else none) none) none] none else none)) (if (4 : Nat) ≤ List.length a0 then altK (g10 (0, [.l (List.take (4 : Nat) a0)])) [fun r => asB r (fun x1 r => asE r (if (4 : Nat) ≤ List.length a0 then altK (g11 (0, [.l (List.take (4 : Nat) a0)])) [fun r => asB r (fun x2 r => asE r (cond (Decidable.decide (x1 = x2)) (if (4 : Nat) ≤ List.length a0 then altK (g12 (0, [.l (List.take (4 : Nat) a0), .i (a1)])) [fun r => asI r (fun x3 r => asE r (cond (Decidable.decide (x3 = (0 : Int))) (if (4 : Nat) ≤ List.length a0 then altK (g13 (0, [.l (List.take (4 : Nat) a0)])) [fun r => asB r (fun x4 r => asE r (if (4 : Nat) ≤ List.length a0 then if List.length (List.take (4 : Nat) a0) = (4 : Nat) then cond (Decidable.decide (x4 = Decidable.decide (List.take (4 : Nat) a0 = [(0 : Int), (0 : Int), (0 : Int), (0 : Int)]))) (altK (awakeL (0, [])) [fun r => asB r (fun x5 r => asE r (some (0, [.b (x5)])) none) none] none) (some (0, [.b (Bool.false)])) else none else none) none) none] none else none) (some (0, [.b (Bool.false)]))) none) none] none else none) (some (0, [.b (Bool.false)]))) none) none] none else none) none) none] none else none)
def g4 (s : Nat × List Leaf) : Option (Nat × List Leaf) := match s.1 with
  | 0 => let r := s.2; asL r (fun a0 r => asI r (fun a1 r => asE r (g4_0 a0 a1) none) none) none
  | _ => none
def ent4 : Ent := ⟨ain4, aout4, g4⟩
def os4 : List Orc := []
theorem ok4 (n : Nat) : EntSound (evF tab (n + 21)) 4 ent4 :=
  fn_sound (n := n + 20) (ck4 n) (OK := okOf os4) (body := kc4) (show OrcsOk (okOf os4) (evF tab (n + 20)) kc4 from ⟨trivial, ⟨trivial, ⟨⟨trivial, ⟨trivial, trivial⟩⟩, ⟨trivial, ⟨trivial, trivial⟩⟩⟩⟩⟩) t4 (by kernel_rfl)
    (all_ins (Q := fun i sh => ∀ ls, fillA sh ls (fun args h => fnK (ckOf es4) (okOf os4) sf4 kc4 args h (findRes aout4 0) none) none = g4 (i, ls)) (l := ain4) ⟨fun ls => by kernel_rfl, trivial⟩)
/-! function 3 -/
def es3 : List (FuncId × Ent) := [(5, ent5), (7, ent7), (8, ent8), (6, awakeE), (10, ent10), (9, ent9)]
theorem ck3 (n : Nat) : CallKOk (ckOf es3) (evF tab (n + 20)) :=
  ckOf_cons (ok5 (n + 19)) (ckOf_cons (ok7 (n + 17)) (ckOf_cons (ok8 (n + 19)) (ckOf_cons (ok6 (n + 0)) (ckOf_cons (ok10 (n + 19)) (ckOf_cons (ok9 (n + 19)) (ckOf_nil))))))
def kc3_0 : KC := (.seq (.seq (.seq (.reg r3_10) (.cond (.t 29) .skip (.seq (.kill [0, 2, 8, 11, 18, 29, 41, 55]) (.exit 2)))) (.seq (.block 3 (.seq (.reg r3_11) (.cond (.t 41) (.reg r3_12) .skip))) (.reg r3_13))) (.kill [0, 2, 11, 18, 29, 41, 55]))
def in3_0 : List SPat := [⟨[(0, .unk), (1, (.ptr 0 (.c 0))), (2, .unk), (3, (.ptr 1 (.c 0))), (4, (.int .i64)), (5, (.int .i64)), (6, (.int .i64)), (7, (.int .i64)), (8, (.int .i64)), (11, .unk), (18, .unk), (29, .unk), (41, .unk), (55, .unk)], [(true, (.ints .i64)), (true, (.ints .i64))], [], 0⟩]
def out3_0 : List (SX × SPat) := [((.exit 2), ⟨[(0, .unk), (1, (.ptr 0 (.c 0))), (2, .unk), (3, (.ptr 1 (.c 0))), (4, (.int .i64)), (5, (.int .i64)), (6, (.int .i64)), (7, (.int .i64)), (8, .unk), (11, .unk), (18, .unk), (29, .unk), (41, .unk), (55, .unk)], [(true, (.ints .i64)), (true, (.ints .i64))], [], 0⟩)]
def f3_0_0 (t4 : Int) (t5 : Int) (t6 : Int) (t7 : Int) (t8 : Int) (h0 : List Int) (h1 : List Int) : Option (Nat × List Leaf) :=
  cond (Decidable.decide (t8 < (4 : Int))) (cond (Decidable.decide ((0 : Int) < t6)) (altK (g9 (0, [.i (t8)])) [fun r => asI r (fun x1 r => asE r (cond (Decidable.decide (Go.IntKind.wrap Go.IntKind.i64 (t6 * x1) ≤ t4)) (some (0, [.i (t4), .i (t5), .i (t6), .i (t8), .i (Go.IntKind.wrap Go.IntKind.i64 (t8 + (1 : Int))), .l (h0), .l (h1)])) (some (0, [.i (t4), .i (t5), .i (t6), .i (t7), .i (Go.IntKind.wrap Go.IntKind.i64 (t8 + (1 : Int))), .l (h0), .l (h1)]))) none) none] none) (some (0, [.i (t4), .i (t5), .i (t6), .i (t7), .i (Go.IntKind.wrap Go.IntKind.i64 (t8 + (1 : Int))), .l (h0), .l (h1)]))) (some (1, [.i (t4), .i (t5), .i (t6), .i (t7), .l (h0), .l (h1)]))
def f3_0 (s : Nat × List Leaf) : Option (Nat × List Leaf) := match s.1 with
  | 0 => let r := s.2; asI r (fun t4 r => asI r (fun t5 r => asI r (fun t6 r => asI r (fun t7 r => asI r (fun t8 r => asL r (fun h0 r => asL r (fun h1 r => asE r (f3_0_0 t4 t5 t6 t7 t8 h0 h1) none) none) none) none) none) none) none) none
  | _ => none
def L3_0 (s : Nat × List Leaf) : Option (Nat × List Leaf) := loopL 1 f3_0 s
def orc3_0 : Orc := ⟨in3_0, out3_0, L3_0⟩
def os3_0 : List Orc := []
theorem snd3_0 (n : Nat) : OrcSound (evF tab (n + 20)) (.loop l3_14) orc3_0 :=
  loop_sound (b := kc3_0) (OK := okOf os3_0) (ck3 n) (show OrcsOk (okOf os3_0) (evF tab (n + 20)) kc3_0 from ⟨⟨⟨trivial, ⟨trivial, ⟨trivial, trivial⟩⟩⟩, ⟨⟨trivial, ⟨trivial, trivial⟩⟩, trivial⟩⟩, trivial⟩) (ins := in3_0) (outs := out3_0) (f := f3_0) (by kernel_rfl)
    (all_ins (Q := fun i sh => ∀ ls, fillS sh ls (fun st => evK (ckOf es3) (okOf os3_0) kc3_0 st (findOut (in3_0.map (SX.normal, ·) ++ out3_0) 0) none) none = f3_0 (i, ls)) (l := in3_0) ⟨fun ls => by kernel_rfl, trivial⟩)
def kc3_1 : KC := (.seq (.seq (.seq (.reg r3_6) (.cond (.t 18) .skip (.seq (.kill [0, 1, 2, 4, 5, 6, 7, 8, 11, 18, 29, 41, 55]) (.exit 0)))) (.seq (.block 1 (.seq (.reg r3_7) (.seq (.reg r3_8) (.seq (.seq (.reg r3_9) (.block 2 (.seq (.kill [0, 2, 11, 18, 29, 41, 55]) (.orc 0 (.loop l3_14))))) (.seq (.reg r3_15) (.cond (.t 55) (.seq (.reg r3_16) (.seq (.kill [0, 1, 3, 4, 5, 6, 7, 8, 11, 18, 29, 41, 55]) .ret)) .skip)))))) (.reg r3_17))) (.kill [0, 2, 6, 7, 8, 11, 18, 29, 41, 55]))
def in3_1 : List SPat := [⟨[(0, .unk), (1, (.ptr 0 (.c 0))), (2, .unk), (3, (.ptr 1 (.c 0))), (4, (.int .i64)), (5, (.int .i64)), (6, .unk), (7, .unk), (8, .unk), (11, .unk), (18, .unk), (29, .unk), (41, .unk), (55, .unk)], [(true, (.ints .i64)), (true, (.ints .i64))], [], 0⟩]
def out3_1 : List (SX × SPat) := [((.exit 0), ⟨[(0, .unk), (1, .unk), (2, .unk), (3, (.ptr 1 (.c 0))), (4, .unk), (5, .unk), (6, .unk), (7, .unk), (8, .unk), (11, .unk), (18, .unk), (29, .unk), (41, .unk), (55, .unk)], [(true, (.ints .i64)), (true, (.ints .i64))], [], 0⟩), (.ret, ⟨[(0, .unk), (1, .unk), (2, (.cbool false)), (3, .unk), (4, .unk), (5, .unk), (6, .unk), (7, .unk), (8, .unk), (11, .unk), (18, .unk), (29, .unk), (41, .unk), (55, .unk)], [(true, (.ints .i64)), (true, (.ints .i64))], [], 0⟩)]
def f3_1_0 (t4 : Int) (t5 : Int) (h0 : List Int) (h1 : List Int) : Option (Nat × List Leaf) :=
  cond (Decidable.decide (t5 < (4 : Int))) (if (16 : Nat) ≤ List.length h0 then altK (g8 (0, [.l (List.take (16 : Nat) h0), .i (Go.IntKind.wrap Go.IntKind.i64 ((4 : Int) * t5)), .i (Go.IntKind.wrap Go.IntKind.i64 (Go.IntKind.wrap Go.IntKind.i64 ((4 : Int) * t5) + (4 : Int)))])) [fun r => asI r (fun x1 r => asE r (altK (L3_0 (0, [.i (t4), .i (t5), .i (x1), .i ((0 : Int)), .i ((1 : Int)), .l (h0), .l (h1)])) [fun r => asI r (fun x6 r => asI r (fun x7 r => asI r (fun x8 r => asI r (fun x9 r => asL r (fun x16h0 r => asL r (fun x16h1 r => asE r (if (0 : Int) ≤ x7 ∧ x7 < (4 : Int) then optK (x16h1[Int.toNat x7]?) (fun x17 => cond (Decidable.decide (x17 ≠ x9)) (some (2, [.l (x16h0), .l (x16h1)])) (altK (g9 (0, [.i (x9)])) [fun r => asI r (fun x18 r => asE r (cond (Decidable.decide (x6 < Go.IntKind.wrap Go.IntKind.i64 (x8 * x18))) (some (2, [.l (x16h0), .l (x16h1)])) (some (0, [.i (x6), .i (Go.IntKind.wrap Go.IntKind.i64 (x7 + (1 : Int))), .l (x16h0), .l (x16h1)]))) none) none] none)) (none) else none) none) none) none) none) none) none) none] none) none) none] none else none) (some (1, [.l (h0), .l (h1)]))
def f3_1 (s : Nat × List Leaf) : Option (Nat × List Leaf) := match s.1 with
  | 0 => let r := s.2; asI r (fun t4 r => asI r (fun t5 r => asL r (fun h0 r => asL r (fun h1 r => asE r (f3_1_0 t4 t5 h0 h1) none) none) none) none) none
  | _ => none
def L3_1 (s : Nat × List Leaf) : Option (Nat × List Leaf) := loopL 1 f3_1 s
def orc3_1 : Orc := ⟨in3_1, out3_1, L3_1⟩
def os3_1 : List Orc := [orc3_0]
theorem snd3_1 (n : Nat) : OrcSound (evF tab (n + 20)) (.loop l3_18) orc3_1 :=
  loop_sound (b := kc3_1) (OK := okOf os3_1) (ck3 n) (show OrcsOk (okOf os3_1) (evF tab (n + 20)) kc3_1 from ⟨⟨⟨trivial, ⟨trivial, ⟨trivial, trivial⟩⟩⟩, ⟨⟨trivial, ⟨trivial, ⟨⟨trivial, ⟨trivial, (okOf_ok (os := os3_1) (i := 0) (o := orc3_0) rfl (snd3_0 n))⟩⟩, ⟨trivial, ⟨⟨trivial, ⟨trivial, trivial⟩⟩, trivial⟩⟩⟩⟩⟩, trivial⟩⟩, trivial⟩) (ins := in3_1) (outs := out3_1) (f := f3_1) (by kernel_rfl)
    (all_ins (Q := fun i sh => ∀ ls, fillS sh ls (fun st => evK (ckOf es3) (okOf os3_1) kc3_1 st (findOut (in3_1.map (SX.normal, ·) ++ out3_1) 0) none) none = f3_1 (i, ls)) (l := in3_1) ⟨fun ls => by kernel_rfl, trivial⟩)
def kc3 : KC := (.seq (.reg r3_0) (.seq (.seq (.reg r3_1) (.cond (.t 11) (.seq (.reg r3_2) (.seq (.kill [0, 1, 3, 4, 5, 6, 7, 8, 11, 18, 29, 41, 55]) .ret)) .skip)) (.seq (.reg r3_3) (.seq (.reg r3_4) (.seq (.seq (.reg r3_5) (.block 0 (.seq (.kill [0, 2, 6, 7, 8, 11, 18, 29, 41, 55]) (.orc 1 (.loop l3_18))))) (.seq (.reg r3_19) (.seq (.kill [0, 1, 3, 4, 5, 6, 7, 8, 11, 18, 29, 41, 55]) .ret)))))))
def ain3 : List APat := [⟨[(.ints .i64)], []⟩]
def aout3 : List RPat := [⟨.bool, [], []⟩]
def g3_0 (a0 : List Int) : Option (Nat × List Leaf) :=
  if (16 : Nat) ≤ List.length a0 then altK (g5 (0, [.l (List.take (16 : Nat) a0)])) [fun r => asB r (fun x1 r => asE r (cond (!x1) (altK (awakeL (0, [])) [fun r => asB r (fun x36 r => asE r (some (0, [.b (x36)])) none) none] none) (if (16 : Nat) ≤ List.length a0 then altK (g7 (0, [.l (List.take (16 : Nat) a0)])) [fun r => asL r (fun x2 r => asE r (if List.length x2 = (4 : Nat) then if (0 : Nat) + List.length x2 ≤ (4 : Nat) then if (16 : Nat) ≤ List.length a0 then altK (g8 (0, [.l (List.take (16 : Nat) a0), .i ((0 : Int)), .i ((16 : Int))])) [fun r => asI r (fun x3 r => asE r (altK (L3_1 (0, [.i (x3), .i ((0 : Int)), .l (a0), .l (x2 ++ List.drop ((0 : Nat) + List.length x2) [(0 : Int), (0 : Int), (0 : Int), (0 : Int)])])) [fun r => asL r (fun x18h0 r => asL r (fun x18h1 r => asE r (if (4 : Nat) ≤ List.length x18h1 then altK (g10 (0, [.l (List.take (4 : Nat) x18h1)])) [fun r => asB r (fun x19 r => asE r (cond (x19) (altK (awakeL (0, [])) [fun r => asB r (fun x20 r => asE r (some (0, [.b (x20)])) none) none] none) (some (0, [.b (Bool.false)]))) none) none] none else none) none) none) none, fun r => asL r (fun x35h0 r => asL r (fun x35h1 r => asE r (some (0, [.b (Bool.false)])) none) none) none] none) none) none] none else none else none else none) none) none] none else none)) none) none] none else none
def g3 (s : Nat × List Leaf) : Option (Nat × List Leaf) := match s.1 with
  | 0 => let r := s.2; asL r (fun a0 r => asE r (g3_0 a0) none) none
  | _ => none
def ent3 : Ent := ⟨ain3, aout3, g3⟩
def os3 : List Orc := [orc3_0, orc3_1]
theorem ok3 (n : Nat) : EntSound (evF tab (n + 21)) 3 ent3 :=
  fn_sound (n := n + 20) (ck3 n) (OK := okOf os3) (body := kc3) (show OrcsOk (okOf os3) (evF tab (n + 20)) kc3 from ⟨trivial, ⟨⟨trivial, ⟨⟨trivial, ⟨trivial, trivial⟩⟩, trivial⟩⟩, ⟨trivial, ⟨trivial, ⟨⟨trivial, ⟨trivial, (okOf_ok (os := os3) (i := 1) (o := orc3_1) rfl (snd3_1 n))⟩⟩, ⟨trivial, ⟨trivial, trivial⟩⟩⟩⟩⟩⟩⟩) t3 (by kernel_rfl)
    (all_ins (Q := fun i sh => ∀ ls, fillA sh ls (fun args h => fnK (ckOf es3) (okOf os3) sf3 kc3 args h (findRes aout3 0) none) none = g3 (i, ls)) (l := ain3) ⟨fun ls => by kernel_rfl, trivial⟩)
end Go.Proofs.Ythkefaobciihdaa
