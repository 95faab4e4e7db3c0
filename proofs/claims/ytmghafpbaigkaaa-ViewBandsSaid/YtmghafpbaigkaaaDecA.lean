/-
  Functions of this seat as functions of leaves, by program, and that the abstract machine answers as they do. Conditions: none.
-/
import Derived.Test.YtmghafpbaigkaaaTab
import Derived.Test.YtmghafpbaigkaaaSxW
import Derived.KernelRfl
namespace Go.Proofs.Ytmghafpbaigkaaa
open Go Go.Sx
set_option maxRecDepth 100000
set_option linter.unusedVariables false
/-! function 17 -/
def es17 : List (FuncId × Ent) := []
theorem ck17 (n : Nat) : CallKOk (ckOf es17) (evF tab (n + 0)) :=
  ckOf_nil
def kc17 : KC := (.seq (.reg r17_0) (.seq (.block 0 (.seq (.reg r17_1) (.cond (.t 3) (.seq (.reg r17_2) (.seq (.kill [0, 3, 6]) .ret)) (.seq (.reg r17_3) (.cond (.t 6) (.seq (.reg r17_4) (.seq (.kill [0, 3, 6]) .ret)) .skip))))) (.seq (.reg r17_5) (.seq (.kill [0, 3, 6]) .ret))))
def ain17 : List APat := [⟨[(.int .i64)], []⟩]
def aout17 : List RPat := [⟨(.int .i64), [], []⟩]
def g17_0 (a0 : Int) : Option (Nat × List Leaf) :=
  cond (Decidable.decide (a0 = (-9223372036854775808 : Int))) (some (0, [.i ((9223372036854775807 : Int))])) (cond (Decidable.decide (a0 < (0 : Int))) (some (0, [.i (Go.IntKind.wrap Go.IntKind.i64 ((0 : Int) - a0))])) (some (0, [.i (a0)])))
def g17 (s : Nat × List Leaf) : Option (Nat × List Leaf) := match s.1 with
  | 0 => let r := s.2; asI r (fun a0 r => asE r (g17_0 a0) none) none
  | _ => none
def ent17 : Ent := ⟨ain17, aout17, g17⟩
def os17 : List Orc := []
theorem ok17 (n : Nat) : EntSound (evF tab (n + 1)) 17 ent17 :=
  fn_sound (n := n + 0) (ck17 n) (OK := okOf os17) (body := kc17) (show OrcsOk (okOf os17) (evF tab (n + 0)) kc17 from ⟨trivial, ⟨⟨trivial, ⟨⟨trivial, ⟨trivial, trivial⟩⟩, ⟨trivial, ⟨⟨trivial, ⟨trivial, trivial⟩⟩, trivial⟩⟩⟩⟩, ⟨trivial, ⟨trivial, trivial⟩⟩⟩⟩) t17 (by kernel_rfl)
    (all_ins (Q := fun i sh => ∀ ls, fillA sh ls (fun args h => fnK (ckOf es17) (okOf os17) sf17 kc17 args h (findRes aout17 0) none) none = g17 (i, ls)) (l := ain17) ⟨fun ls => by kernel_rfl, trivial⟩)
/-! function 23 -/
def es23 : List (FuncId × Ent) := []
theorem ck23 (n : Nat) : CallKOk (ckOf es23) (evF tab (n + 0)) :=
  ckOf_nil
def kc23 : KC := (.seq (.reg r23_0) (.seq (.block 0 (.seq (.reg r23_1) (.cond (.t 7) (.seq (.reg r23_2) (.seq (.kill [0, 1, 2, 7, 17]) .ret)) (.seq (.reg r23_3) (.cond (.t 17) (.seq (.reg r23_4) (.seq (.kill [0, 1, 2, 7, 17]) .ret)) .skip))))) (.seq (.reg r23_5) (.seq (.kill [0, 1, 2, 7, 17]) .ret))))
def ain23 : List APat := [⟨[(.int .i64), (.int .i64), (.int .i64)], []⟩]
def aout23 : List RPat := [⟨(.int .i64), [], []⟩]
def g23_0 (a0 : Int) (a1 : Int) (a2 : Int) : Option (Nat × List Leaf) :=
  cond (Decidable.decide (a0 < a1)) (some (0, [.i (a1)])) (cond (Decidable.decide (a2 < a1)) (some (0, [.i (a1)])) (cond (Decidable.decide (a2 < a0)) (some (0, [.i (a2)])) (some (0, [.i (a0)]))))
def g23 (s : Nat × List Leaf) : Option (Nat × List Leaf) := match s.1 with
  | 0 => let r := s.2; asI r (fun a0 r => asI r (fun a1 r => asI r (fun a2 r => asE r (g23_0 a0 a1 a2) none) none) none) none
  | _ => none
def ent23 : Ent := ⟨ain23, aout23, g23⟩
def os23 : List Orc := []
theorem ok23 (n : Nat) : EntSound (evF tab (n + 1)) 23 ent23 :=
  fn_sound (n := n + 0) (ck23 n) (OK := okOf os23) (body := kc23) (show OrcsOk (okOf os23) (evF tab (n + 0)) kc23 from ⟨trivial, ⟨⟨trivial, ⟨⟨trivial, ⟨trivial, trivial⟩⟩, ⟨trivial, ⟨⟨trivial, ⟨trivial, trivial⟩⟩, trivial⟩⟩⟩⟩, ⟨trivial, ⟨trivial, trivial⟩⟩⟩⟩) t23 (by kernel_rfl)
    (all_ins (Q := fun i sh => ∀ ls, fillA sh ls (fun args h => fnK (ckOf es23) (okOf os23) sf23 kc23 args h (findRes aout23 0) none) none = g23 (i, ls)) (l := ain23) ⟨fun ls => by kernel_rfl, trivial⟩)
/-! function 16 -/
def es16 : List (FuncId × Ent) := []
theorem ck16 (n : Nat) : CallKOk (ckOf es16) (evF tab (n + 0)) :=
  ckOf_nil
def kc16_0 : KC := (.seq (.seq (.seq (.reg r16_6) (.cond (.t 11) .skip (.seq (.kill [0, 2, 5, 7, 11]) (.exit 0)))) (.seq (.block 1 (.reg r16_7)) (.reg r16_8))) (.kill [2, 5, 7, 11]))
def in16_0 : List SPat := [⟨[(0, (.int .i64)), (2, .unk), (3, (.int .i64)), (5, .unk), (7, .unk), (11, .unk)], [], [], 0⟩]
def out16_0 : List (SX × SPat) := [((.exit 0), ⟨[(0, .unk), (2, .unk), (3, (.int .i64)), (5, .unk), (7, .unk), (11, .unk)], [], [], 0⟩)]
def f16_0_0 (t0 : Int) (t3 : Int) : Option (Nat × List Leaf) :=
  cond (Decidable.decide ((0 : Int) < t0)) (some (0, [.i (Go.Sx.shrI Go.IntKind.i64 t0 (1 : Int)), .i (Go.IntKind.wrap Go.IntKind.i64 (t3 + (1 : Int)))])) (some (1, [.i (t3)]))
def f16_0 (s : Nat × List Leaf) : Option (Nat × List Leaf) := match s.1 with
  | 0 => let r := s.2; asI r (fun t0 r => asI r (fun t3 r => asE r (f16_0_0 t0 t3) none) none) none
  | _ => none
def L16_0 (s : Nat × List Leaf) : Option (Nat × List Leaf) := loopL 1 f16_0 s
def orc16_0 : Orc := ⟨in16_0, out16_0, L16_0⟩
def os16_0 : List Orc := []
theorem snd16_0 (n : Nat) : OrcSound (evF tab (n + 0)) (.loop l16_9) orc16_0 :=
  loop_sound (b := kc16_0) (OK := okOf os16_0) (ck16 n) (show OrcsOk (okOf os16_0) (evF tab (n + 0)) kc16_0 from ⟨⟨⟨trivial, ⟨trivial, ⟨trivial, trivial⟩⟩⟩, ⟨trivial, trivial⟩⟩, trivial⟩) (ins := in16_0) (outs := out16_0) (f := f16_0) (by kernel_rfl)
    (all_ins (Q := fun i sh => ∀ ls, fillS sh ls (fun st => evK (ckOf es16) (okOf os16_0) kc16_0 st (findOut (in16_0.map (SX.normal, ·) ++ out16_0) 0) none) none = f16_0 (i, ls)) (l := in16_0) ⟨fun ls => by kernel_rfl, trivial⟩)
def kc16 : KC := (.seq (.reg r16_0) (.seq (.seq (.reg r16_1) (.cond (.t 5) (.seq (.reg r16_2) (.seq (.kill [0, 3, 5, 7, 11]) .ret)) .skip)) (.seq (.seq (.reg r16_3) (.cond (.t 7) (.reg r16_4) .skip)) (.seq (.reg r16_5) (.seq (.block 0 (.seq (.kill [2, 5, 7, 11]) (.orc 0 (.loop l16_9)))) (.seq (.reg r16_10) (.seq (.kill [0, 3, 5, 7, 11]) .ret)))))))
def ain16 : List APat := [⟨[(.int .i64)], []⟩]
def aout16 : List RPat := [⟨(.int .i64), [], []⟩]
def g16_0 (a0 : Int) : Option (Nat × List Leaf) :=
  cond (Decidable.decide (a0 = (0 : Int))) (some (0, [.i ((0 : Int))])) (cond (Decidable.decide (a0 < (0 : Int))) (altK (L16_0 (0, [.i (Go.Sx.bXor Go.IntKind.i64 (-1 : Int) a0), .i ((1 : Int))])) [fun r => asI r (fun x10 r => asE r (some (0, [.i (x10)])) none) none] none) (altK (L16_0 (0, [.i (a0), .i ((1 : Int))])) [fun r => asI r (fun x3 r => asE r (some (0, [.i (x3)])) none) none] none))
def g16 (s : Nat × List Leaf) : Option (Nat × List Leaf) := match s.1 with
  | 0 => let r := s.2; asI r (fun a0 r => asE r (g16_0 a0) none) none
  | _ => none
def ent16 : Ent := ⟨ain16, aout16, g16⟩
def os16 : List Orc := [orc16_0]
theorem ok16 (n : Nat) : EntSound (evF tab (n + 1)) 16 ent16 :=
  fn_sound (n := n + 0) (ck16 n) (OK := okOf os16) (body := kc16) (show OrcsOk (okOf os16) (evF tab (n + 0)) kc16 from ⟨trivial, ⟨⟨trivial, ⟨⟨trivial, ⟨trivial, trivial⟩⟩, trivial⟩⟩, ⟨⟨trivial, ⟨trivial, trivial⟩⟩, ⟨trivial, ⟨⟨trivial, (okOf_ok (os := os16) (i := 0) (o := orc16_0) rfl (snd16_0 n))⟩, ⟨trivial, ⟨trivial, trivial⟩⟩⟩⟩⟩⟩⟩) t16 (by kernel_rfl)
    (all_ins (Q := fun i sh => ∀ ls, fillA sh ls (fun args h => fnK (ckOf es16) (okOf os16) sf16 kc16 args h (findRes aout16 0) none) none = g16 (i, ls)) (l := ain16) ⟨fun ls => by kernel_rfl, trivial⟩)
/-! function 24 -/
def es24 : List (FuncId × Ent) := []
theorem ck24 (n : Nat) : CallKOk (ckOf es24) (evF tab (n + 0)) :=
  ckOf_nil
def kc24_0 : KC := (.seq (.seq (.reg r24_3) (.seq (.cond (.t 10) .skip (.seq (.kill [0, 2, 5, 6, 7, 8, 9, 10, 17, 28]) (.exit 0))) (.seq (.block 1 (.seq (.reg r24_4) (.seq (.reg r24_5) (.block 2 (.seq (.reg r24_6) (.cond (.t 17) (.reg r24_7) (.seq (.reg r24_8) (.cond (.t 28) (.reg r24_9) (.reg r24_10))))))))) (.reg r24_11)))) (.kill [0, 2, 5, 6, 10, 17, 28]))
def in24_0 : List SPat := [⟨[(0, .unk), (2, .unk), (3, (.int .i64)), (5, .unk), (6, .unk), (7, (.slice 0 (.c 0) .h 1)), (8, (.int .i64)), (9, (.int .i64)), (10, .unk), (17, .unk), (28, .unk)], [(true, (.ints .i64))], [], 1⟩]
def out24_0 : List (SX × SPat) := [((.exit 0), ⟨[(0, .unk), (2, .unk), (3, (.int .i64)), (5, .unk), (6, .unk), (7, .unk), (8, .unk), (9, .unk), (10, .unk), (17, .unk), (28, .unk)], [(true, (.ints .i64))], [], 1⟩)]
def f24_0_0 (t3 : Int) (t7n : Nat) (t8 : Int) (t9 : Int) (h0 : List Int) : Option (Nat × List Leaf) :=
  cond (Decidable.decide (t9 < t8)) (if (0 : Int) ≤ t9 ∧ t9 < (↑t7n : Int) then optK (h0[Int.toNat t9]?) (fun x1 => cond (Decidable.decide ((0 : Int) < t3)) (cond (Decidable.decide ((0 : Int) < x1)) (cond (Decidable.decide (Go.IntKind.wrap Go.IntKind.i64 (t3 + x1) < (0 : Int))) (some (0, [.i ((9223372036854775807 : Int)), .n (t7n), .i (t8), .i (Go.IntKind.wrap Go.IntKind.i64 (t9 + (1 : Int))), .l (h0)])) (cond (Decidable.decide (t3 < (0 : Int))) (cond (Decidable.decide (x1 < (0 : Int))) (cond (Decidable.decide ((0 : Int) ≤ Go.IntKind.wrap Go.IntKind.i64 (t3 + x1))) (some (0, [.i ((-9223372036854775808 : Int)), .n (t7n), .i (t8), .i (Go.IntKind.wrap Go.IntKind.i64 (t9 + (1 : Int))), .l (h0)])) (some (0, [.i (Go.IntKind.wrap Go.IntKind.i64 (t3 + x1)), .n (t7n), .i (t8), .i (Go.IntKind.wrap Go.IntKind.i64 (t9 + (1 : Int))), .l (h0)]))) (some (0, [.i (Go.IntKind.wrap Go.IntKind.i64 (t3 + x1)), .n (t7n), .i (t8), .i (Go.IntKind.wrap Go.IntKind.i64 (t9 + (1 : Int))), .l (h0)]))) (some (0, [.i (Go.IntKind.wrap Go.IntKind.i64 (t3 + x1)), .n (t7n), .i (t8), .i (Go.IntKind.wrap Go.IntKind.i64 (t9 + (1 : Int))), .l (h0)])))) (cond (Decidable.decide (t3 < (0 : Int))) (cond (Decidable.decide (x1 < (0 : Int))) (cond (Decidable.decide ((0 : Int) ≤ Go.IntKind.wrap Go.IntKind.i64 (t3 + x1))) (some (0, [.i ((-9223372036854775808 : Int)), .n (t7n), .i (t8), .i (Go.IntKind.wrap Go.IntKind.i64 (t9 + (1 : Int))), .l (h0)])) (some (0, [.i (Go.IntKind.wrap Go.IntKind.i64 (t3 + x1)), .n (t7n), .i (t8), .i (Go.IntKind.wrap Go.IntKind.i64 (t9 + (1 : Int))), .l (h0)]))) (some (0, [.i (Go.IntKind.wrap Go.IntKind.i64 (t3 + x1)), .n (t7n), .i (t8), .i (Go.IntKind.wrap Go.IntKind.i64 (t9 + (1 : Int))), .l (h0)]))) (some (0, [.i (Go.IntKind.wrap Go.IntKind.i64 (t3 + x1)), .n (t7n), .i (t8), .i (Go.IntKind.wrap Go.IntKind.i64 (t9 + (1 : Int))), .l (h0)])))) (cond (Decidable.decide (t3 < (0 : Int))) (cond (Decidable.decide (x1 < (0 : Int))) (cond (Decidable.decide ((0 : Int) ≤ Go.IntKind.wrap Go.IntKind.i64 (t3 + x1))) (some (0, [.i ((-9223372036854775808 : Int)), .n (t7n), .i (t8), .i (Go.IntKind.wrap Go.IntKind.i64 (t9 + (1 : Int))), .l (h0)])) (some (0, [.i (Go.IntKind.wrap Go.IntKind.i64 (t3 + x1)), .n (t7n), .i (t8), .i (Go.IntKind.wrap Go.IntKind.i64 (t9 + (1 : Int))), .l (h0)]))) (some (0, [.i (Go.IntKind.wrap Go.IntKind.i64 (t3 + x1)), .n (t7n), .i (t8), .i (Go.IntKind.wrap Go.IntKind.i64 (t9 + (1 : Int))), .l (h0)]))) (some (0, [.i (Go.IntKind.wrap Go.IntKind.i64 (t3 + x1)), .n (t7n), .i (t8), .i (Go.IntKind.wrap Go.IntKind.i64 (t9 + (1 : Int))), .l (h0)])))) (none) else none) (some (1, [.i (t3), .l (h0)]))
def f24_0 (s : Nat × List Leaf) : Option (Nat × List Leaf) := match s.1 with
  | 0 => let r := s.2; asI r (fun t3 r => asN r (fun t7n r => asI r (fun t8 r => asI r (fun t9 r => asL r (fun h0 r => asE r (f24_0_0 t3 t7n t8 t9 h0) none) none) none) none) none) none
  | _ => none
def L24_0 (s : Nat × List Leaf) : Option (Nat × List Leaf) := loopL 1 f24_0 s
def orc24_0 : Orc := ⟨in24_0, out24_0, L24_0⟩
def os24_0 : List Orc := []
theorem snd24_0 (n : Nat) : OrcSound (evF tab (n + 0)) (.loop l24_12) orc24_0 :=
  loop_sound (b := kc24_0) (OK := okOf os24_0) (ck24 n) (show OrcsOk (okOf os24_0) (evF tab (n + 0)) kc24_0 from ⟨⟨trivial, ⟨⟨trivial, ⟨trivial, trivial⟩⟩, ⟨⟨trivial, ⟨trivial, ⟨trivial, ⟨trivial, ⟨trivial, ⟨trivial, trivial⟩⟩⟩⟩⟩⟩, trivial⟩⟩⟩, trivial⟩) (ins := in24_0) (outs := out24_0) (f := f24_0) (by kernel_rfl)
    (all_ins (Q := fun i sh => ∀ ls, fillS sh ls (fun st => evK (ckOf es24) (okOf os24_0) kc24_0 st (findOut (in24_0.map (SX.normal, ·) ++ out24_0) 0) none) none = f24_0 (i, ls)) (l := in24_0) ⟨fun ls => by kernel_rfl, trivial⟩)
def kc24 : KC := (.seq (.reg r24_0) (.seq (.reg r24_1) (.seq (.seq (.reg r24_2) (.block 0 (.seq (.kill [0, 2, 5, 6, 10, 17, 28]) (.orc 0 (.loop l24_12))))) (.seq (.reg r24_13) (.seq (.kill [0, 3, 5, 6, 7, 8, 9, 10, 17, 28]) .ret)))))
def ain24 : List APat := [⟨[(.slice 0 (.c 0) .h 1)], [(true, (.ints .i64))]⟩]
def aout24 : List RPat := [⟨(.int .i64), [(true, (.ints .i64))], []⟩]
def g24_0 (a0n : Nat) (h0 : List Int) : Option (Nat × List Leaf) :=
  altK (L24_0 (0, [.i ((0 : Int)), .n (a0n), .i ((↑a0n : Int)), .i ((0 : Int)), .l (h0)])) [fun r => asI r (fun x3 r => asL r (fun x12h0 r => asE r (some (0, [.i (x3), .l (x12h0)])) none) none) none] none
def g24 (s : Nat × List Leaf) : Option (Nat × List Leaf) := match s.1 with
  | 0 => let r := s.2; asN r (fun a0n r => asL r (fun h0 r => asE r (g24_0 a0n h0) none) none) none
  | _ => none
def ent24 : Ent := ⟨ain24, aout24, g24⟩
def os24 : List Orc := [orc24_0]
theorem ok24 (n : Nat) : EntSound (evF tab (n + 1)) 24 ent24 :=
  fn_sound (n := n + 0) (ck24 n) (OK := okOf os24) (body := kc24) (show OrcsOk (okOf os24) (evF tab (n + 0)) kc24 from ⟨trivial, ⟨trivial, ⟨⟨trivial, ⟨trivial, (okOf_ok (os := os24) (i := 0) (o := orc24_0) rfl (snd24_0 n))⟩⟩, ⟨trivial, ⟨trivial, trivial⟩⟩⟩⟩⟩) t24 (by kernel_rfl)
    (all_ins (Q := fun i sh => ∀ ls, fillA sh ls (fun args h => fnK (ckOf es24) (okOf os24) sf24 kc24 args h (findRes aout24 0) none) none = g24 (i, ls)) (l := ain24) ⟨fun ls => by kernel_rfl, trivial⟩)
/-! function 25 -/
def es25 : List (FuncId × Ent) := []
theorem ck25 (n : Nat) : CallKOk (ckOf es25) (evF tab (n + 0)) :=
  ckOf_nil
def kc25 : KC := (.seq (.reg r25_0) (.seq (.seq (.reg r25_1) (.cond (.t 8) (.seq (.reg r25_2) (.seq (.kill [0, 8]) .ret)) .skip)) (.seq (.reg r25_3) (.seq (.kill [0, 8]) .ret))))
def ain25 : List APat := [⟨[(.int .i64)], []⟩]
def aout25 : List RPat := [⟨(.int .i64), [], []⟩]
def g25_0 (a0 : Int) : Option (Nat × List Leaf) :=
  cond (Decidable.decide (a0 < (0 : Int))) (some (0, [.i ((0 : Int))])) (cond (Decidable.decide ((16 : Int) ≤ a0)) (some (0, [.i ((0 : Int))])) (some (0, [.i (Go.IntKind.wrap Go.IntKind.i64 (Int.tdiv a0 (4 : Int)))])))
def g25 (s : Nat × List Leaf) : Option (Nat × List Leaf) := match s.1 with
  | 0 => let r := s.2; asI r (fun a0 r => asE r (g25_0 a0) none) none
  | _ => none
def ent25 : Ent := ⟨ain25, aout25, g25⟩
def os25 : List Orc := []
theorem ok25 (n : Nat) : EntSound (evF tab (n + 1)) 25 ent25 :=
  fn_sound (n := n + 0) (ck25 n) (OK := okOf os25) (body := kc25) (show OrcsOk (okOf os25) (evF tab (n + 0)) kc25 from ⟨trivial, ⟨⟨trivial, ⟨⟨trivial, ⟨trivial, trivial⟩⟩, trivial⟩⟩, ⟨trivial, ⟨trivial, trivial⟩⟩⟩⟩) t25 (by kernel_rfl)
    (all_ins (Q := fun i sh => ∀ ls, fillA sh ls (fun args h => fnK (ckOf es25) (okOf os25) sf25 kc25 args h (findRes aout25 0) none) none = g25 (i, ls)) (l := ain25) ⟨fun ls => by kernel_rfl, trivial⟩)
/-! function 15 -/
def es15 : List (FuncId × Ent) := [(25, ent25), (17, ent17), (16, ent16)]
theorem ck15 (n : Nat) : CallKOk (ckOf es15) (evF tab (n + 1)) :=
  ckOf_cons (ok25 (n + 0)) (ckOf_cons (ok17 (n + 0)) (ckOf_cons (ok16 (n + 0)) (ckOf_nil)))
def kc15_0 : KC := (.seq (.seq (.reg r15_3) (.seq (.cond (.t 8) .skip (.seq (.kill [0, 1, 4, 5, 6, 7, 8]) (.exit 0))) (.seq (.block 1 (.seq (.reg r15_4) (.reg r15_5))) (.reg r15_6)))) (.kill [0, 1, 4, 5, 8]))
def in15_0 : List SPat := [⟨[(0, .unk), (1, .unk), (2, (.ptr 1 (.c 0))), (3, (.ptr 2 (.c 0))), (4, .unk), (5, .unk), (6, (.ints .i64)), (7, (.int .i64)), (8, .unk)], [(true, (.ints .i64)), (true, (.intsE .i64 4)), (true, (.ints .i64))], [], 0⟩]
def out15_0 : List (SX × SPat) := [((.exit 0), ⟨[(0, .unk), (1, .unk), (2, (.ptr 1 (.c 0))), (3, (.ptr 2 (.c 0))), (4, .unk), (5, .unk), (6, .unk), (7, .unk), (8, .unk)], [(true, (.ints .i64)), (true, (.intsE .i64 4)), (true, (.ints .i64))], [], 0⟩)]
def f15_0_0 (t6 : List Int) (t7 : Int) (h0 : List Int) (h1_0 : Int) (h1_1 : Int) (h1_2 : Int) (h1_3 : Int) (h2 : List Int) : Option (Nat × List Leaf) :=
  cond (Decidable.decide (t7 < (16 : Int))) (if (0 : Int) ≤ t7 ∧ t7 < (16 : Int) then optK (t6[Int.toNat t7]?) (fun x1 => altK (g25 (0, [.i (t7)])) [fun r => asI r (fun x2 r => asE r (altK (g25 (0, [.i (t7)])) [fun r => asI r (fun x3 r => asE r (if (0 : Int) ≤ x3 ∧ x3 < (4 : Int) then optK (h2[Int.toNat x3]?) (fun x4 => altK (g17 (0, [.i (x1)])) [fun r => asI r (fun x5 r => asE r (altK (g16 (0, [.i (x5)])) [fun r => asI r (fun x6 r => asE r (if (0 : Int) ≤ x2 ∧ x2 < (4 : Int) then if Int.toNat x2 < List.length h2 then some (0, [.l (t6), .i (Go.IntKind.wrap Go.IntKind.i64 (t7 + (1 : Int))), .l (h0), .i (h1_0), .i (h1_1), .i (h1_2), .i (h1_3), .l (List.set h2 (Int.toNat x2) (if x6 > x4 then x6 else x4))]) else none else none) none) none] none) none) none] none) (none) else none) none) none] none) none) none] none) (none) else none) (some (1, [.l (h0), .i (h1_0), .i (h1_1), .i (h1_2), .i (h1_3), .l (h2)]))
def f15_0 (s : Nat × List Leaf) : Option (Nat × List Leaf) := match s.1 with
  | 0 => let r := s.2; asL r (fun t6 r => asI r (fun t7 r => asL r (fun h0 r => asI r (fun h1_0 r => asI r (fun h1_1 r => asI r (fun h1_2 r => asI r (fun h1_3 r => asL r (fun h2 r => asE r (f15_0_0 t6 t7 h0 h1_0 h1_1 h1_2 h1_3 h2) none) none) none) none) none) none) none) none) none
  | _ => none
def L15_0 (s : Nat × List Leaf) : Option (Nat × List Leaf) := loopL 1 f15_0 s
def orc15_0 : Orc := ⟨in15_0, out15_0, L15_0⟩
def os15_0 : List Orc := []
theorem snd15_0 (n : Nat) : OrcSound (evF tab (n + 1)) (.loop l15_7) orc15_0 :=
  loop_sound (b := kc15_0) (OK := okOf os15_0) (ck15 n) (show OrcsOk (okOf os15_0) (evF tab (n + 1)) kc15_0 from ⟨⟨trivial, ⟨⟨trivial, ⟨trivial, trivial⟩⟩, ⟨⟨trivial, trivial⟩, trivial⟩⟩⟩, trivial⟩) (ins := in15_0) (outs := out15_0) (f := f15_0) (by kernel_rfl)
    (all_ins (Q := fun i sh => ∀ ls, fillS sh ls (fun st => evK (ckOf es15) (okOf os15_0) kc15_0 st (findOut (in15_0.map (SX.normal, ·) ++ out15_0) 0) none) none = f15_0 (i, ls)) (l := in15_0) ⟨fun ls => by kernel_rfl, trivial⟩)
def kc15 : KC := (.seq (.reg r15_0) (.seq (.reg r15_1) (.seq (.seq (.reg r15_2) (.block 0 (.seq (.kill [0, 1, 4, 5, 8]) (.orc 0 (.loop l15_7))))) (.seq (.reg r15_8) (.seq (.kill [0, 1, 3, 4, 5, 6, 7, 8]) .ret)))))
def ain15 : List APat := [⟨[(.ints .i64)], []⟩]
def aout15 : List RPat := [⟨(.ints .i64), [], []⟩]
def g15_0 (a0 : List Int) : Option (Nat × List Leaf) :=
  if (16 : Nat) ≤ List.length a0 then altK (L15_0 (0, [.l (List.take (16 : Nat) a0), .i ((0 : Int)), .l (a0), .i ((0 : Int)), .i ((0 : Int)), .i ((0 : Int)), .i ((0 : Int)), .l ([(0 : Int), (0 : Int), (0 : Int), (0 : Int)])])) [fun r => asL r (fun x10h0 r => asI r (fun x10h1_0 r => asI r (fun x10h1_1 r => asI r (fun x10h1_2 r => asI r (fun x10h1_3 r => asL r (fun x10h2 r => asE r (if (4 : Nat) ≤ List.length x10h2 then if List.length (List.take (4 : Nat) x10h2) = (4 : Nat) then if (0 : Nat) + List.length (List.take (4 : Nat) x10h2) ≤ List.length [x10h1_0, x10h1_1, x10h1_2, x10h1_3] then if (4 : Nat) ≤ List.length (List.take (4 : Nat) x10h2 ++ List.drop ((0 : Nat) + List.length (List.take (4 : Nat) x10h2)) [x10h1_0, x10h1_1, x10h1_2, x10h1_3]) then some (0, [.l (List.take (4 : Nat) (List.take (4 : Nat) x10h2 ++ List.drop ((0 : Nat) + List.length (List.take (4 : Nat) x10h2)) [x10h1_0, x10h1_1, x10h1_2, x10h1_3]))]) else none else none else none else none) none) none) none) none) none) none) none] none else none
def g15 (s : Nat × List Leaf) : Option (Nat × List Leaf) := match s.1 with
  | 0 => let r := s.2; asL r (fun a0 r => asE r (g15_0 a0) none) none
  | _ => none
def ent15 : Ent := ⟨ain15, aout15, g15⟩
def os15 : List Orc := [orc15_0]
theorem ok15 (n : Nat) : EntSound (evF tab (n + 2)) 15 ent15 :=
  fn_sound (n := n + 1) (ck15 n) (OK := okOf os15) (body := kc15) (show OrcsOk (okOf os15) (evF tab (n + 1)) kc15 from ⟨trivial, ⟨trivial, ⟨⟨trivial, ⟨trivial, (okOf_ok (os := os15) (i := 0) (o := orc15_0) rfl (snd15_0 n))⟩⟩, ⟨trivial, ⟨trivial, trivial⟩⟩⟩⟩⟩) t15 (by kernel_rfl)
    (all_ins (Q := fun i sh => ∀ ls, fillA sh ls (fun args h => fnK (ckOf es15) (okOf os15) sf15 kc15 args h (findRes aout15 0) none) none = g15 (i, ls)) (l := ain15) ⟨fun ls => by kernel_rfl, trivial⟩)
/-! function 18 -/
def es18 : List (FuncId × Ent) := [(17, ent17), (23, ent23), (24, ent24)]
theorem ck18 (n : Nat) : CallKOk (ckOf es18) (evF tab (n + 1)) :=
  ckOf_cons (ok17 (n + 0)) (ckOf_cons (ok23 (n + 0)) (ckOf_cons (ok24 (n + 0)) (ckOf_nil)))
def kc18_0 : KC := (.seq (.seq (.reg r18_3) (.seq (.cond (.t 9) .skip (.seq (.kill [0, 1, 2, 5, 6, 7, 8, 9]) (.exit 0))) (.seq (.block 1 (.seq (.reg r18_4) (.seq (.reg r18_5) (.reg r18_6)))) (.reg r18_7)))) (.kill [0, 1, 2, 5, 6, 9]))
def in18_0 : List SPat := [⟨[(0, .unk), (1, .unk), (2, .unk), (3, (.int .i64)), (5, .unk), (6, .unk), (7, (.ints .i64)), (8, (.int .i64)), (9, .unk)], [(true, (.ints .i64))], [], 0⟩]
def out18_0 : List (SX × SPat) := [((.exit 0), ⟨[(0, .unk), (1, .unk), (2, .unk), (3, (.int .i64)), (5, .unk), (6, .unk), (7, .unk), (8, .unk), (9, .unk)], [(true, (.ints .i64))], [], 0⟩)]
def f18_0_0 (t3 : Int) (t7 : List Int) (t8 : Int) (h0 : List Int) : Option (Nat × List Leaf) :=
  cond (Decidable.decide (t8 < (16 : Int))) (if (0 : Int) ≤ t8 ∧ t8 < (16 : Int) then optK (t7[Int.toNat t8]?) (fun x1 => altK (g17 (0, [.i (x1)])) [fun r => asI r (fun x2 r => asE r (altK (g23 (0, [.i (x2), .i ((0 : Int)), .i ((2147483647 : Int))])) [fun r => asI r (fun x3 r => asE r (altK (g24 (0, [.n ((2 : Nat)), .l ([t3, Go.IntKind.wrap Go.IntKind.i64 (x3 * x3)])])) [fun r => asI r (fun x4 r => asL r (fun x4h0 r => asE r (some (0, [.i (x4), .l (t7), .i (Go.IntKind.wrap Go.IntKind.i64 (t8 + (1 : Int))), .l (h0)])) none) none) none] none) none) none] none) none) none] none) (none) else none) (some (1, [.i (t3), .l (h0)]))
def f18_0 (s : Nat × List Leaf) : Option (Nat × List Leaf) := match s.1 with
  | 0 => let r := s.2; asI r (fun t3 r => asL r (fun t7 r => asI r (fun t8 r => asL r (fun h0 r => asE r (f18_0_0 t3 t7 t8 h0) none) none) none) none) none
  | _ => none
def L18_0 (s : Nat × List Leaf) : Option (Nat × List Leaf) := loopL 1 f18_0 s
def orc18_0 : Orc := ⟨in18_0, out18_0, L18_0⟩
def os18_0 : List Orc := []
theorem snd18_0 (n : Nat) : OrcSound (evF tab (n + 1)) (.loop l18_8) orc18_0 :=
  loop_sound (b := kc18_0) (OK := okOf os18_0) (ck18 n) (show OrcsOk (okOf os18_0) (evF tab (n + 1)) kc18_0 from ⟨⟨trivial, ⟨⟨trivial, ⟨trivial, trivial⟩⟩, ⟨⟨trivial, ⟨trivial, trivial⟩⟩, trivial⟩⟩⟩, trivial⟩) (ins := in18_0) (outs := out18_0) (f := f18_0) (by kernel_rfl)
    (all_ins (Q := fun i sh => ∀ ls, fillS sh ls (fun st => evK (ckOf es18) (okOf os18_0) kc18_0 st (findOut (in18_0.map (SX.normal, ·) ++ out18_0) 0) none) none = f18_0 (i, ls)) (l := in18_0) ⟨fun ls => by kernel_rfl, trivial⟩)
def kc18 : KC := (.seq (.reg r18_0) (.seq (.reg r18_1) (.seq (.seq (.reg r18_2) (.block 0 (.seq (.kill [0, 1, 2, 5, 6, 9]) (.orc 0 (.loop l18_8))))) (.seq (.reg r18_9) (.seq (.kill [0, 1, 3, 5, 6, 7, 8, 9]) .ret)))))
def ain18 : List APat := [⟨[(.ints .i64)], []⟩]
def aout18 : List RPat := [⟨(.int .i64), [], []⟩]
def g18_0 (a0 : List Int) : Option (Nat × List Leaf) :=
  if (16 : Nat) ≤ List.length a0 then altK (L18_0 (0, [.i ((0 : Int)), .l (List.take (16 : Nat) a0), .i ((0 : Int)), .l (a0)])) [fun r => asI r (fun x4 r => asL r (fun x10h0 r => asE r (some (0, [.i (x4)])) none) none) none] none else none
def g18 (s : Nat × List Leaf) : Option (Nat × List Leaf) := match s.1 with
  | 0 => let r := s.2; asL r (fun a0 r => asE r (g18_0 a0) none) none
  | _ => none
def ent18 : Ent := ⟨ain18, aout18, g18⟩
def os18 : List Orc := [orc18_0]
theorem ok18 (n : Nat) : EntSound (evF tab (n + 2)) 18 ent18 :=
  fn_sound (n := n + 1) (ck18 n) (OK := okOf os18) (body := kc18) (show OrcsOk (okOf os18) (evF tab (n + 1)) kc18 from ⟨trivial, ⟨trivial, ⟨⟨trivial, ⟨trivial, (okOf_ok (os := os18) (i := 0) (o := orc18_0) rfl (snd18_0 n))⟩⟩, ⟨trivial, ⟨trivial, trivial⟩⟩⟩⟩⟩) t18 (by kernel_rfl)
    (all_ins (Q := fun i sh => ∀ ls, fillA sh ls (fun args h => fnK (ckOf es18) (okOf os18) sf18 kc18 args h (findRes aout18 0) none) none = g18 (i, ls)) (l := ain18) ⟨fun ls => by kernel_rfl, trivial⟩)
/-! function 8 -/
def es8 : List (FuncId × Ent) := []
theorem ck8 (n : Nat) : CallKOk (ckOf es8) (evF tab (n + 0)) :=
  ckOf_nil
def kc8_0 : KC := (.seq (.seq (.reg r8_5) (.seq (.cond (.t 28) .skip (.seq (.kill [0, 1, 2, 6, 8, 18, 26, 27, 28]) (.exit 0))) (.seq (.block 1 (.seq (.reg r8_6) (.reg r8_7))) (.reg r8_8)))) (.kill [0, 1, 2, 6, 8, 18, 28]))
def in8_0 : List SPat := [⟨[(0, .unk), (1, .unk), (2, .unk), (6, .unk), (7, (.slice 0 (.c 0) .h 1)), (8, .unk), (18, .unk), (26, (.int .i64)), (27, (.int .i64)), (28, .unk)], [(true, (.ints .u8))], [], 0⟩]
def out8_0 : List (SX × SPat) := [((.exit 0), ⟨[(0, .unk), (1, .unk), (2, .unk), (6, .unk), (7, (.slice 0 (.c 0) .h 1)), (8, .unk), (18, .unk), (26, .unk), (27, .unk), (28, .unk)], [(true, (.ints .u8))], [], 0⟩)]
def f8_0_0 (t7n : Nat) (t26 : Int) (t27 : Int) (h0 : List Int) : Option (Nat × List Leaf) :=
  cond (Decidable.decide (t27 < t26)) (if (0 : Int) ≤ t27 ∧ t27 < (↑t7n : Int) then if Int.toNat t27 < List.length h0 then some (0, [.n (t7n), .i (t26), .i (Go.IntKind.wrap Go.IntKind.i64 (t27 + (1 : Int))), .l (List.set h0 (Int.toNat t27) (35 : Int))]) else none else none) (some (1, [.n (t7n), .l (h0)]))
def f8_0 (s : Nat × List Leaf) : Option (Nat × List Leaf) := match s.1 with
  | 0 => let r := s.2; asN r (fun t7n r => asI r (fun t26 r => asI r (fun t27 r => asL r (fun h0 r => asE r (f8_0_0 t7n t26 t27 h0) none) none) none) none) none
  | _ => none
def L8_0 (s : Nat × List Leaf) : Option (Nat × List Leaf) := loopL 1 f8_0 s
def orc8_0 : Orc := ⟨in8_0, out8_0, L8_0⟩
def os8_0 : List Orc := []
theorem snd8_0 (n : Nat) : OrcSound (evF tab (n + 0)) (.loop l8_9) orc8_0 :=
  loop_sound (b := kc8_0) (OK := okOf os8_0) (ck8 n) (show OrcsOk (okOf os8_0) (evF tab (n + 0)) kc8_0 from ⟨⟨trivial, ⟨⟨trivial, ⟨trivial, trivial⟩⟩, ⟨⟨trivial, trivial⟩, trivial⟩⟩⟩, trivial⟩) (ins := in8_0) (outs := out8_0) (f := f8_0) (by kernel_rfl)
    (all_ins (Q := fun i sh => ∀ ls, fillS sh ls (fun st => evK (ckOf es8) (okOf os8_0) kc8_0 st (findOut (in8_0.map (SX.normal, ·) ++ out8_0) 0) none) none = f8_0 (i, ls)) (l := in8_0) ⟨fun ls => by kernel_rfl, trivial⟩)
def kc8 : KC := (.seq (.reg r8_0) (.seq (.seq (.reg r8_1) (.cond (.t 18) (.seq (.reg r8_2) (.seq (.kill [0, 1, 2, 7, 8, 18, 26, 27, 28]) .ret)) .skip)) (.seq (.reg r8_3) (.seq (.seq (.reg r8_4) (.block 0 (.seq (.kill [0, 1, 2, 6, 8, 18, 28]) (.orc 0 (.loop l8_9))))) (.seq (.reg r8_10) (.seq (.kill [0, 1, 2, 7, 8, 18, 26, 27, 28]) .ret))))))
def ain8 : List APat := [⟨[(.int .i64), (.int .i64), (.int .i64)], []⟩]
def aout8 : List RPat := [⟨.str, [], []⟩]
def g8_0 (a0 : Int) (a1 : Int) (a2 : Int) : Option (Nat × List Leaf) :=
  cond (Decidable.decide (a0 < (0 : Int))) (some (0, [.s ([])])) (cond (Decidable.decide (a1 < (1 : Int))) (some (0, [.s ([])])) (cond (Decidable.decide (a2 < (0 : Int))) (some (0, [.s ([])])) (if a1 = (0 : Int) then none else if (if (1000 : Int) < if a2 < Go.IntKind.wrap Go.IntKind.i64 (Int.tdiv a0 a1) then a2 else Go.IntKind.wrap Go.IntKind.i64 (Int.tdiv a0 a1) then (1000 : Int) else if a2 < Go.IntKind.wrap Go.IntKind.i64 (Int.tdiv a0 a1) then a2 else Go.IntKind.wrap Go.IntKind.i64 (Int.tdiv a0 a1)) = if (1000 : Int) < if a2 < Go.IntKind.wrap Go.IntKind.i64 (Int.tdiv a0 a1) then a2 else Go.IntKind.wrap Go.IntKind.i64 (Int.tdiv a0 a1) then (1000 : Int) else if a2 < Go.IntKind.wrap Go.IntKind.i64 (Int.tdiv a0 a1) then a2 else Go.IntKind.wrap Go.IntKind.i64 (Int.tdiv a0 a1) then if (0 : Int) ≤ if (1000 : Int) < if a2 < Go.IntKind.wrap Go.IntKind.i64 (Int.tdiv a0 a1) then a2 else Go.IntKind.wrap Go.IntKind.i64 (Int.tdiv a0 a1) then (1000 : Int) else if a2 < Go.IntKind.wrap Go.IntKind.i64 (Int.tdiv a0 a1) then a2 else Go.IntKind.wrap Go.IntKind.i64 (Int.tdiv a0 a1) then if ((1 : Int) * if (1000 : Int) < if a2 < Go.IntKind.wrap Go.IntKind.i64 (Int.tdiv a0 a1) then a2 else Go.IntKind.wrap Go.IntKind.i64 (Int.tdiv a0 a1) then (1000 : Int) else if a2 < Go.IntKind.wrap Go.IntKind.i64 (Int.tdiv a0 a1) then a2 else Go.IntKind.wrap Go.IntKind.i64 (Int.tdiv a0 a1)) ≤ (140737488355328 : Int) then if (if (1000 : Int) < if a2 < Go.IntKind.wrap Go.IntKind.i64 (Int.tdiv a0 a1) then a2 else Go.IntKind.wrap Go.IntKind.i64 (Int.tdiv a0 a1) then (1000 : Int) else if a2 < Go.IntKind.wrap Go.IntKind.i64 (Int.tdiv a0 a1) then a2 else Go.IntKind.wrap Go.IntKind.i64 (Int.tdiv a0 a1)) ≤ (9223372036854775807 : Int) then altK (L8_0 (0, [.n (Int.toNat (if (1000 : Int) < if a2 < Go.IntKind.wrap Go.IntKind.i64 (Int.tdiv a0 a1) then a2 else Go.IntKind.wrap Go.IntKind.i64 (Int.tdiv a0 a1) then (1000 : Int) else if a2 < Go.IntKind.wrap Go.IntKind.i64 (Int.tdiv a0 a1) then a2 else Go.IntKind.wrap Go.IntKind.i64 (Int.tdiv a0 a1))), .i ((↑(Int.toNat (if (1000 : Int) < if a2 < Go.IntKind.wrap Go.IntKind.i64 (Int.tdiv a0 a1) then a2 else Go.IntKind.wrap Go.IntKind.i64 (Int.tdiv a0 a1) then (1000 : Int) else if a2 < Go.IntKind.wrap Go.IntKind.i64 (Int.tdiv a0 a1) then a2 else Go.IntKind.wrap Go.IntKind.i64 (Int.tdiv a0 a1))) : Int)), .i ((0 : Int)), .l (List.replicate (Int.toNat (if (1000 : Int) < if a2 < Go.IntKind.wrap Go.IntKind.i64 (Int.tdiv a0 a1) then a2 else Go.IntKind.wrap Go.IntKind.i64 (Int.tdiv a0 a1) then (1000 : Int) else if a2 < Go.IntKind.wrap Go.IntKind.i64 (Int.tdiv a0 a1) then a2 else Go.IntKind.wrap Go.IntKind.i64 (Int.tdiv a0 a1))) (0 : Int))])) [fun r => asN r (fun x5n r => asL r (fun x11h0 r => asE r (if (0 : Nat) + x5n ≤ List.length x11h0 then some (0, [.s (List.map (fun (n : Int) => UInt8.ofNat (Int.toNat n)) (List.take x5n x11h0))]) else none) none) none) none] none else none else none else none else none)))
def g8 (s : Nat × List Leaf) : Option (Nat × List Leaf) := match s.1 with
  | 0 => let r := s.2; asI r (fun a0 r => asI r (fun a1 r => asI r (fun a2 r => asE r (g8_0 a0 a1 a2) none) none) none) none
  | _ => none
def ent8 : Ent := ⟨ain8, aout8, g8⟩
def os8 : List Orc := [orc8_0]
theorem ok8 (n : Nat) : EntSound (evF tab (n + 1)) 8 ent8 :=
  fn_sound (n := n + 0) (ck8 n) (OK := okOf os8) (body := kc8) (show OrcsOk (okOf os8) (evF tab (n + 0)) kc8 from ⟨trivial, ⟨⟨trivial, ⟨⟨trivial, ⟨trivial, trivial⟩⟩, trivial⟩⟩, ⟨trivial, ⟨⟨trivial, ⟨trivial, (okOf_ok (os := os8) (i := 0) (o := orc8_0) rfl (snd8_0 n))⟩⟩, ⟨trivial, ⟨trivial, trivial⟩⟩⟩⟩⟩⟩) t8 (by kernel_rfl)
    (all_ins (Q := fun i sh => ∀ ls, fillA sh ls (fun args h => fnK (ckOf es8) (okOf os8) sf8 kc8 args h (findRes aout8 0) none) none = g8 (i, ls)) (l := ain8) ⟨fun ls => by kernel_rfl, trivial⟩)
/-! function 12 -/
def es12 : List (FuncId × Ent) := []
theorem ck12 (n : Nat) : CallKOk (ckOf es12) (evF tab (n + 0)) :=
  ckOf_nil
def kc12 : KC := (.seq (.reg r12_0) (.seq (.seq (.reg r12_1) (.cond (.t 4) (.reg r12_2) .skip)) (.seq (.seq (.reg r12_3) (.cond (.t 12) (.seq (.reg r12_4) (.seq (.kill [0, 4, 12]) .ret)) .skip)) (.seq (.reg r12_5) (.seq (.kill [0, 4, 12]) .ret)))))
def ain12 : List APat := [⟨[(.int .i64)], []⟩]
def aout12 : List RPat := [⟨(.int .i64), [], []⟩]
def g12_0 (a0 : Int) : Option (Nat × List Leaf) :=
  cond (Decidable.decide (a0 < (0 : Int))) (cond (Decidable.decide (Go.IntKind.wrap Go.IntKind.i64 ((0 : Int) - a0) < (0 : Int))) (some (0, [.i ((2147483647 : Int))])) (cond (Decidable.decide ((2147483647 : Int) < Go.IntKind.wrap Go.IntKind.i64 ((0 : Int) - a0))) (some (0, [.i ((2147483647 : Int))])) (some (0, [.i (Go.IntKind.wrap Go.IntKind.i64 ((0 : Int) - a0))])))) (cond (Decidable.decide (a0 < (0 : Int))) (some (0, [.i ((2147483647 : Int))])) (cond (Decidable.decide ((2147483647 : Int) < a0)) (some (0, [.i ((2147483647 : Int))])) (some (0, [.i (a0)]))))
def g12 (s : Nat × List Leaf) : Option (Nat × List Leaf) := match s.1 with
  | 0 => let r := s.2; asI r (fun a0 r => asE r (g12_0 a0) none) none
  | _ => none
def ent12 : Ent := ⟨ain12, aout12, g12⟩
def os12 : List Orc := []
theorem ok12 (n : Nat) : EntSound (evF tab (n + 1)) 12 ent12 :=
  fn_sound (n := n + 0) (ck12 n) (OK := okOf os12) (body := kc12) (show OrcsOk (okOf os12) (evF tab (n + 0)) kc12 from ⟨trivial, ⟨⟨trivial, ⟨trivial, trivial⟩⟩, ⟨⟨trivial, ⟨⟨trivial, ⟨trivial, trivial⟩⟩, trivial⟩⟩, ⟨trivial, ⟨trivial, trivial⟩⟩⟩⟩⟩) t12 (by kernel_rfl)
    (all_ins (Q := fun i sh => ∀ ls, fillA sh ls (fun args h => fnK (ckOf es12) (okOf os12) sf12 kc12 args h (findRes aout12 0) none) none = g12 (i, ls)) (l := ain12) ⟨fun ls => by kernel_rfl, trivial⟩)
/-! function 13 -/
def es13 : List (FuncId × Ent) := []
theorem ck13 (n : Nat) : CallKOk (ckOf es13) (evF tab (n + 0)) :=
  ckOf_nil
def kc13 : KC := (.seq (.reg r13_0) (.seq (.seq (.reg r13_1) (.cond (.t 8) (.seq (.reg r13_2) (.seq (.kill [0, 1, 8]) .ret)) .skip)) (.seq (.reg r13_3) (.seq (.kill [0, 1, 8]) .ret))))
def ain13 : List APat := [⟨[(.int .i64), (.int .i64)], []⟩]
def aout13 : List RPat := [⟨(.int .i64), [], []⟩]
def g13_0 (a0 : Int) (a1 : Int) : Option (Nat × List Leaf) :=
  cond (Decidable.decide (Go.IntKind.wrap Go.IntKind.i64 ((9223372036854775807 : Int) - a1) < a0)) (some (0, [.i ((9223372036854775807 : Int))])) (some (0, [.i (Go.IntKind.wrap Go.IntKind.i64 (a0 + a1))]))
def g13 (s : Nat × List Leaf) : Option (Nat × List Leaf) := match s.1 with
  | 0 => let r := s.2; asI r (fun a0 r => asI r (fun a1 r => asE r (g13_0 a0 a1) none) none) none
  | _ => none
def ent13 : Ent := ⟨ain13, aout13, g13⟩
def os13 : List Orc := []
theorem ok13 (n : Nat) : EntSound (evF tab (n + 1)) 13 ent13 :=
  fn_sound (n := n + 0) (ck13 n) (OK := okOf os13) (body := kc13) (show OrcsOk (okOf os13) (evF tab (n + 0)) kc13 from ⟨trivial, ⟨⟨trivial, ⟨⟨trivial, ⟨trivial, trivial⟩⟩, trivial⟩⟩, ⟨trivial, ⟨trivial, trivial⟩⟩⟩⟩) t13 (by kernel_rfl)
    (all_ins (Q := fun i sh => ∀ ls, fillA sh ls (fun args h => fnK (ckOf es13) (okOf os13) sf13 kc13 args h (findRes aout13 0) none) none = g13 (i, ls)) (l := ain13) ⟨fun ls => by kernel_rfl, trivial⟩)
/-! function 10: closed -/
theorem ok10 (n : Nat) : EntSound (evF tab (n + 20)) 10 awakeE := awake_sound (by kernel_rfl)
/-! function 6 -/
def es6 : List (FuncId × Ent) := [(15, ent15), (18, ent18), (10, awakeE), (17, ent17), (16, ent16), (12, ent12), (13, ent13)]
theorem ck6 (n : Nat) : CallKOk (ckOf es6) (evF tab (n + 20)) :=
  ckOf_cons (ok15 (n + 18)) (ckOf_cons (ok18 (n + 18)) (ckOf_cons (ok10 (n + 0)) (ckOf_cons (ok17 (n + 19)) (ckOf_cons (ok16 (n + 19)) (ckOf_cons (ok12 (n + 19)) (ckOf_cons (ok13 (n + 19)) (ckOf_nil)))))))
def kc6_0 : KC := (.seq (.seq (.seq (.reg r6_7) (.cond (.t 21) .skip (.seq (.kill [0, 2, 7, 8, 12, 21, 31, 48]) (.exit 2)))) (.seq (.block 3 (.seq (.reg r6_8) (.seq (.seq (.reg r6_9) (.cond (.t 31) (.reg r6_10) .skip)) (.reg r6_11)))) (.reg r6_12))) (.kill [0, 2, 8, 12, 21, 31, 48]))
def in6_0 : List SPat := [⟨[(0, .unk), (1, (.ptr 0 (.c 0))), (2, .unk), (3, (.ptr 1 (.c 0))), (4, (.int .i64)), (5, (.int .i64)), (6, (.int .i64)), (7, (.int .i64)), (8, .unk), (12, .unk), (21, .unk), (31, .unk), (48, .unk)], [(true, (.ints .i64)), (true, (.ints .i64))], [], 0⟩]
def out6_0 : List (SX × SPat) := [((.exit 2), ⟨[(0, .unk), (1, (.ptr 0 (.c 0))), (2, .unk), (3, (.ptr 1 (.c 0))), (4, (.int .i64)), (5, (.int .i64)), (6, (.int .i64)), (7, .unk), (8, .unk), (12, .unk), (21, .unk), (31, .unk), (48, .unk)], [(true, (.ints .i64)), (true, (.ints .i64))], [], 0⟩)]
def f6_0_0 (t4 : Int) (t5 : Int) (t6 : Int) (t7 : Int) (h0 : List Int) (h1 : List Int) : Option (Nat × List Leaf) :=
  cond (Decidable.decide (t7 < Go.IntKind.wrap Go.IntKind.i64 (Go.IntKind.wrap Go.IntKind.i64 ((4 : Int) * t5) + (4 : Int)))) (if (0 : Int) ≤ t7 ∧ t7 < (16 : Int) then optK (h0[Int.toNat t7]?) (fun x1 => altK (g17 (0, [.i (x1)])) [fun r => asI r (fun x2 r => asE r (altK (g16 (0, [.i (x2)])) [fun r => asI r (fun x3 r => asE r (cond (Decidable.decide (t6 < x3)) (if (0 : Int) ≤ t7 ∧ t7 < (16 : Int) then optK (h0[Int.toNat t7]?) (fun x9 => altK (g12 (0, [.i (x9)])) [fun r => asI r (fun x10 r => asE r (if (0 : Int) ≤ t7 ∧ t7 < (16 : Int) then optK (h0[Int.toNat t7]?) (fun x11 => altK (g12 (0, [.i (x11)])) [fun r => asI r (fun x12 r => asE r (altK (g13 (0, [.i (t4), .i (Go.IntKind.wrap Go.IntKind.i64 (x10 * x12))])) [fun r => asI r (fun x13 r => asE r (some (0, [.i (x13), .i (t5), .i (x3), .i (Go.IntKind.wrap Go.IntKind.i64 (t7 + (1 : Int))), .l (h0), .l (h1)])) none) none] none) none) none] none) (none) else none) none) none] none) (none) else none) (if (0 : Int) ≤ t7 ∧ t7 < (16 : Int) then optK (h0[Int.toNat t7]?) (fun x4 => altK (g12 (0, [.i (x4)])) [fun r => asI r (fun x5 r => asE r (if (0 : Int) ≤ t7 ∧ t7 < (16 : Int) then optK (h0[Int.toNat t7]?) (fun x6 => altK (g12 (0, [.i (x6)])) [fun r => asI r (fun x7 r => asE r (altK (g13 (0, [.i (t4), .i (Go.IntKind.wrap Go.IntKind.i64 (x5 * x7))])) [fun r => asI r (fun x8 r => asE r (some (0, [.i (x8), .i (t5), .i (t6), .i (Go.IntKind.wrap Go.IntKind.i64 (t7 + (1 : Int))), .l (h0), .l (h1)])) none) none] none) none) none] none) (none) else none) none) none] none) (none) else none)) none) none] none) none) none] none) (none) else none) (some (1, [.i (t4), .i (t5), .i (t6), .l (h0), .l (h1)]))
def f6_0 (s : Nat × List Leaf) : Option (Nat × List Leaf) := match s.1 with
  | 0 => let r := s.2; asI r (fun t4 r => asI r (fun t5 r => asI r (fun t6 r => asI r (fun t7 r => asL r (fun h0 r => asL r (fun h1 r => asE r (f6_0_0 t4 t5 t6 t7 h0 h1) none) none) none) none) none) none) none
  | _ => none
def L6_0 (s : Nat × List Leaf) : Option (Nat × List Leaf) := loopL 1 f6_0 s
def orc6_0 : Orc := ⟨in6_0, out6_0, L6_0⟩
def os6_0 : List Orc := []
theorem snd6_0 (n : Nat) : OrcSound (evF tab (n + 20)) (.loop l6_13) orc6_0 :=
  loop_sound (b := kc6_0) (OK := okOf os6_0) (ck6 n) (show OrcsOk (okOf os6_0) (evF tab (n + 20)) kc6_0 from ⟨⟨⟨trivial, ⟨trivial, ⟨trivial, trivial⟩⟩⟩, ⟨⟨trivial, ⟨⟨trivial, ⟨trivial, trivial⟩⟩, trivial⟩⟩, trivial⟩⟩, trivial⟩) (ins := in6_0) (outs := out6_0) (f := f6_0) (by kernel_rfl)
    (all_ins (Q := fun i sh => ∀ ls, fillS sh ls (fun st => evK (ckOf es6) (okOf os6_0) kc6_0 st (findOut (in6_0.map (SX.normal, ·) ++ out6_0) 0) none) none = f6_0 (i, ls)) (l := in6_0) ⟨fun ls => by kernel_rfl, trivial⟩)
def kc6_1 : KC := (.seq (.seq (.seq (.reg r6_4) (.cond (.t 12) .skip (.seq (.kill [0, 2, 3, 5, 6, 7, 8, 12, 21, 31, 48]) (.exit 0)))) (.seq (.block 1 (.seq (.reg r6_5) (.seq (.seq (.reg r6_6) (.block 2 (.seq (.kill [0, 2, 8, 12, 21, 31, 48]) (.orc 0 (.loop l6_13))))) (.seq (.reg r6_14) (.cond (.t 48) (.seq (.reg r6_15) (.seq (.kill [0, 1, 3, 4, 5, 6, 7, 8, 12, 21, 31, 48]) .ret)) .skip))))) (.reg r6_16))) (.kill [0, 2, 6, 7, 8, 12, 21, 31, 48]))
def in6_1 : List SPat := [⟨[(0, .unk), (1, (.ptr 0 (.c 0))), (2, .unk), (3, (.ptr 1 (.c 0))), (4, (.int .i64)), (5, (.int .i64)), (6, .unk), (7, .unk), (8, .unk), (12, .unk), (21, .unk), (31, .unk), (48, .unk)], [(true, (.ints .i64)), (true, (.ints .i64))], [], 0⟩]
def out6_1 : List (SX × SPat) := [((.exit 0), ⟨[(0, .unk), (1, (.ptr 0 (.c 0))), (2, .unk), (3, .unk), (4, (.int .i64)), (5, .unk), (6, .unk), (7, .unk), (8, .unk), (12, .unk), (21, .unk), (31, .unk), (48, .unk)], [(true, (.ints .i64)), (true, (.ints .i64))], [], 0⟩), (.ret, ⟨[(0, .unk), (1, .unk), (2, (.cbool false)), (3, .unk), (4, .unk), (5, .unk), (6, .unk), (7, .unk), (8, .unk), (12, .unk), (21, .unk), (31, .unk), (48, .unk)], [(true, (.ints .i64)), (true, (.ints .i64))], [], 0⟩)]
def f6_1_0 (t4 : Int) (t5 : Int) (h0 : List Int) (h1 : List Int) : Option (Nat × List Leaf) :=
  cond (Decidable.decide (t5 < (4 : Int))) (altK (L6_0 (0, [.i (t4), .i (t5), .i ((0 : Int)), .i (Go.IntKind.wrap Go.IntKind.i64 ((4 : Int) * t5)), .l (h0), .l (h1)])) [fun r => asI r (fun x5 r => asI r (fun x6 r => asI r (fun x7 r => asL r (fun x14h0 r => asL r (fun x14h1 r => asE r (if (0 : Int) ≤ x6 ∧ x6 < (4 : Int) then optK (x14h1[Int.toNat x6]?) (fun x15 => cond (Decidable.decide (x15 ≠ x7)) (some (2, [.l (x14h0), .l (x14h1)])) (some (0, [.i (x5), .i (Go.IntKind.wrap Go.IntKind.i64 (x6 + (1 : Int))), .l (x14h0), .l (x14h1)]))) (none) else none) none) none) none) none) none) none] none) (some (1, [.i (t4), .l (h0), .l (h1)]))
def f6_1 (s : Nat × List Leaf) : Option (Nat × List Leaf) := match s.1 with
  | 0 => let r := s.2; asI r (fun t4 r => asI r (fun t5 r => asL r (fun h0 r => asL r (fun h1 r => asE r (f6_1_0 t4 t5 h0 h1) none) none) none) none) none
  | _ => none
def L6_1 (s : Nat × List Leaf) : Option (Nat × List Leaf) := loopL 1 f6_1 s
def orc6_1 : Orc := ⟨in6_1, out6_1, L6_1⟩
def os6_1 : List Orc := [orc6_0]
theorem snd6_1 (n : Nat) : OrcSound (evF tab (n + 20)) (.loop l6_17) orc6_1 :=
  loop_sound (b := kc6_1) (OK := okOf os6_1) (ck6 n) (show OrcsOk (okOf os6_1) (evF tab (n + 20)) kc6_1 from ⟨⟨⟨trivial, ⟨trivial, ⟨trivial, trivial⟩⟩⟩, ⟨⟨trivial, ⟨⟨trivial, ⟨trivial, (okOf_ok (os := os6_1) (i := 0) (o := orc6_0) rfl (snd6_0 n))⟩⟩, ⟨trivial, ⟨⟨trivial, ⟨trivial, trivial⟩⟩, trivial⟩⟩⟩⟩, trivial⟩⟩, trivial⟩) (ins := in6_1) (outs := out6_1) (f := f6_1) (by kernel_rfl)
    (all_ins (Q := fun i sh => ∀ ls, fillS sh ls (fun st => evK (ckOf es6) (okOf os6_1) kc6_1 st (findOut (in6_1.map (SX.normal, ·) ++ out6_1) 0) none) none = f6_1 (i, ls)) (l := in6_1) ⟨fun ls => by kernel_rfl, trivial⟩)
def kc6 : KC := (.seq (.reg r6_0) (.seq (.reg r6_1) (.seq (.reg r6_2) (.seq (.seq (.reg r6_3) (.block 0 (.seq (.kill [0, 2, 6, 7, 8, 12, 21, 31, 48]) (.orc 1 (.loop l6_17))))) (.seq (.reg r6_18) (.seq (.kill [0, 1, 3, 4, 5, 6, 7, 8, 12, 21, 31, 48]) .ret))))))
def ain6 : List APat := [⟨[(.ints .i64)], []⟩]
def aout6 : List RPat := [⟨.bool, [], []⟩]
def g6_0 (a0 : List Int) : Option (Nat × List Leaf) :=
  if (16 : Nat) ≤ List.length a0 then altK (g15 (0, [.l (List.take (16 : Nat) a0)])) [fun r => asL r (fun x1 r => asE r (if List.length x1 = (4 : Nat) then if (0 : Nat) + List.length x1 ≤ (4 : Nat) then altK (L6_1 (0, [.i ((0 : Int)), .i ((0 : Int)), .l (a0), .l (x1 ++ List.drop ((0 : Nat) + List.length x1) [(0 : Int), (0 : Int), (0 : Int), (0 : Int)])])) [fun r => asI r (fun x6 r => asL r (fun x15h0 r => asL r (fun x15h1 r => asE r (if (16 : Nat) ≤ List.length x15h0 then altK (g18 (0, [.l (List.take (16 : Nat) x15h0)])) [fun r => asI r (fun x16 r => asE r (cond (Decidable.decide (x16 = x6)) (altK (awakeL (0, [])) [fun r => asB r (fun x17 r => asE r (some (0, [.b (x17)])) none) none] none) (some (0, [.b (Bool.false)]))) none) none] none else none) none) none) none) none, fun r => asL r (fun x31h0 r => asL r (fun x31h1 r => asE r (some (0, [.b (Bool.false)])) none) none) none] none else none else none) none) none] none else none
def g6 (s : Nat × List Leaf) : Option (Nat × List Leaf) := match s.1 with
  | 0 => let r := s.2; asL r (fun a0 r => asE r (g6_0 a0) none) none
  | _ => none
def ent6 : Ent := ⟨ain6, aout6, g6⟩
def os6 : List Orc := [orc6_0, orc6_1]
theorem ok6 (n : Nat) : EntSound (evF tab (n + 21)) 6 ent6 :=
  fn_sound (n := n + 20) (ck6 n) (OK := okOf os6) (body := kc6) (show OrcsOk (okOf os6) (evF tab (n + 20)) kc6 from ⟨trivial, ⟨trivial, ⟨trivial, ⟨⟨trivial, ⟨trivial, (okOf_ok (os := os6) (i := 1) (o := orc6_1) rfl (snd6_1 n))⟩⟩, ⟨trivial, ⟨trivial, trivial⟩⟩⟩⟩⟩⟩) t6 (by kernel_rfl)
    (all_ins (Q := fun i sh => ∀ ls, fillA sh ls (fun args h => fnK (ckOf es6) (okOf os6) sf6 kc6 args h (findRes aout6 0) none) none = g6 (i, ls)) (l := ain6) ⟨fun ls => by kernel_rfl, trivial⟩)
/-! function 14 -/
def es14 : List (FuncId × Ent) := [(17, ent17), (23, ent23), (24, ent24)]
theorem ck14 (n : Nat) : CallKOk (ckOf es14) (evF tab (n + 1)) :=
  ckOf_cons (ok17 (n + 0)) (ckOf_cons (ok23 (n + 0)) (ckOf_cons (ok24 (n + 0)) (ckOf_nil)))
def kc14_0 : KC := (.seq (.seq (.reg r14_3) (.seq (.cond (.t 19) .skip (.seq (.kill [0, 1, 4, 5, 6, 10, 11, 12, 17, 18, 19, 32]) (.exit 0))) (.seq (.block 1 (.seq (.reg r14_4) (.seq (.reg r14_5) (.seq (.seq (.reg r14_6) (.cond (.t 32) (.reg r14_7) .skip)) (.seq (.reg r14_8) (.seq (.reg r14_9) (.reg r14_10))))))) (.reg r14_11)))) (.kill [4, 5, 6, 10, 11, 12, 19, 32]))
def in14_0 : List SPat := [⟨[(0, (.slice 0 (.c 0) .h 1)), (1, (.slice 1 (.c 0) .h 1)), (4, .unk), (5, .unk), (6, .unk), (7, (.int .i64)), (8, (.int .i64)), (9, (.int .i64)), (10, .unk), (11, .unk), (12, .unk), (17, (.int .i64)), (18, (.int .i64)), (19, .unk), (32, .unk)], [(false, (.ints .i64)), (false, (.ints .i64))], [], 2⟩]
def out14_0 : List (SX × SPat) := [((.exit 0), ⟨[(0, .unk), (1, .unk), (4, .unk), (5, .unk), (6, .unk), (7, (.int .i64)), (8, (.int .i64)), (9, (.int .i64)), (10, .unk), (11, .unk), (12, .unk), (17, .unk), (18, .unk), (19, .unk), (32, .unk)], [(false, (.ints .i64)), (false, (.ints .i64))], [], 2⟩)]
def f14_0_0 (t0n : Nat) (t1n : Nat) (t7 : Int) (t8 : Int) (t9 : Int) (t17 : Int) (t18 : Int) (h0 : List Int) (h1 : List Int) : Option (Nat × List Leaf) :=
  cond (Decidable.decide (t18 < t17)) (if (0 : Int) ≤ t18 ∧ t18 < (↑t0n : Int) then optK (h0[Int.toNat t18]?) (fun x1 => if (0 : Int) ≤ t18 ∧ t18 < (↑t1n : Int) then optK (h1[Int.toNat t18]?) (fun x2 => altK (g17 (0, [.i (Go.IntKind.wrap Go.IntKind.i64 (x1 - x2))])) [fun r => asI r (fun x3 r => asE r (cond (Decidable.decide ((0 : Int) < x3)) (altK (g23 (0, [.i (x3), .i ((0 : Int)), .i ((2147483647 : Int))])) [fun r => asI r (fun x7 r => asE r (altK (g23 (0, [.i (x3), .i ((0 : Int)), .i ((2147483647 : Int))])) [fun r => asI r (fun x8 r => asE r (altK (g24 (0, [.n ((2 : Nat)), .l ([t9, Go.IntKind.wrap Go.IntKind.i64 (x8 * x8)])])) [fun r => asI r (fun x9 r => asL r (fun x9h0 r => asE r (some (0, [.n (t0n), .n (t1n), .i (if x7 > t7 then x7 else t7), .i (Go.IntKind.wrap Go.IntKind.i64 (t8 + (1 : Int))), .i (x9), .i (t17), .i (Go.IntKind.wrap Go.IntKind.i64 (t18 + (1 : Int))), .l (h0), .l (h1)])) none) none) none] none) none) none] none) none) none] none) (altK (g23 (0, [.i (x3), .i ((0 : Int)), .i ((2147483647 : Int))])) [fun r => asI r (fun x4 r => asE r (altK (g23 (0, [.i (x3), .i ((0 : Int)), .i ((2147483647 : Int))])) [fun r => asI r (fun x5 r => asE r (altK (g24 (0, [.n ((2 : Nat)), .l ([t9, Go.IntKind.wrap Go.IntKind.i64 (x5 * x5)])])) [fun r => asI r (fun x6 r => asL r (fun x6h0 r => asE r (some (0, [.n (t0n), .n (t1n), .i (if x4 > t7 then x4 else t7), .i (t8), .i (x6), .i (t17), .i (Go.IntKind.wrap Go.IntKind.i64 (t18 + (1 : Int))), .l (h0), .l (h1)])) none) none) none] none) none) none] none) none) none] none)) none) none] none) (none) else none) (none) else none) (some (1, [.i (t7), .i (t8), .i (t9), .l (h0), .l (h1)]))
def f14_0 (s : Nat × List Leaf) : Option (Nat × List Leaf) := match s.1 with
  | 0 => let r := s.2; asN r (fun t0n r => asN r (fun t1n r => asI r (fun t7 r => asI r (fun t8 r => asI r (fun t9 r => asI r (fun t17 r => asI r (fun t18 r => asL r (fun h0 r => asL r (fun h1 r => asE r (f14_0_0 t0n t1n t7 t8 t9 t17 t18 h0 h1) none) none) none) none) none) none) none) none) none) none
  | _ => none
def L14_0 (s : Nat × List Leaf) : Option (Nat × List Leaf) := loopL 1 f14_0 s
def orc14_0 : Orc := ⟨in14_0, out14_0, L14_0⟩
def os14_0 : List Orc := []
theorem snd14_0 (n : Nat) : OrcSound (evF tab (n + 1)) (.loop l14_12) orc14_0 :=
  loop_sound (b := kc14_0) (OK := okOf os14_0) (ck14 n) (show OrcsOk (okOf os14_0) (evF tab (n + 1)) kc14_0 from ⟨⟨trivial, ⟨⟨trivial, ⟨trivial, trivial⟩⟩, ⟨⟨trivial, ⟨trivial, ⟨⟨trivial, ⟨trivial, trivial⟩⟩, ⟨trivial, ⟨trivial, trivial⟩⟩⟩⟩⟩, trivial⟩⟩⟩, trivial⟩) (ins := in14_0) (outs := out14_0) (f := f14_0) (by kernel_rfl)
    (all_ins (Q := fun i sh => ∀ ls, fillS sh ls (fun st => evK (ckOf es14) (okOf os14_0) kc14_0 st (findOut (in14_0.map (SX.normal, ·) ++ out14_0) 0) none) none = f14_0 (i, ls)) (l := in14_0) ⟨fun ls => by kernel_rfl, trivial⟩)
def kc14 : KC := (.seq (.reg r14_0) (.seq (.reg r14_1) (.seq (.seq (.reg r14_2) (.block 0 (.seq (.kill [4, 5, 6, 10, 11, 12, 19, 32]) (.orc 0 (.loop l14_12))))) (.seq (.reg r14_13) (.seq (.kill [0, 1, 7, 8, 9, 10, 11, 12, 17, 18, 19, 32]) .ret)))))
def ain14 : List APat := [⟨[(.slice 0 (.c 0) .h 1), (.slice 1 (.c 0) .h 1)], [(false, (.ints .i64)), (false, (.ints .i64))]⟩]
def aout14 : List RPat := [⟨(.tup [(.int .i64), (.int .i64), (.int .i64)]), [(false, (.ints .i64)), (false, (.ints .i64))], []⟩]
def g14_0 (a0n : Nat) (a1n : Nat) (h0 : List Int) (h1 : List Int) : Option (Nat × List Leaf) :=
  altK (L14_0 (0, [.n (a0n), .n (a1n), .i ((0 : Int)), .i ((0 : Int)), .i ((0 : Int)), .i (if (↑a1n : Int) < (↑a0n : Int) then (↑a1n : Int) else (↑a0n : Int)), .i ((0 : Int)), .l (h0), .l (h1)])) [fun r => asI r (fun x6 r => asI r (fun x7 r => asI r (fun x8 r => asL r (fun x16h0 r => asL r (fun x16h1 r => asE r (some (0, [.i (x6), .i (x7), .i (x8), .l (x16h0), .l (x16h1)])) none) none) none) none) none) none] none
def g14 (s : Nat × List Leaf) : Option (Nat × List Leaf) := match s.1 with
  | 0 => let r := s.2; asN r (fun a0n r => asN r (fun a1n r => asL r (fun h0 r => asL r (fun h1 r => asE r (g14_0 a0n a1n h0 h1) none) none) none) none) none
  | _ => none
def ent14 : Ent := ⟨ain14, aout14, g14⟩
def os14 : List Orc := [orc14_0]
theorem ok14 (n : Nat) : EntSound (evF tab (n + 2)) 14 ent14 :=
  fn_sound (n := n + 1) (ck14 n) (OK := okOf os14) (body := kc14) (show OrcsOk (okOf os14) (evF tab (n + 1)) kc14 from ⟨trivial, ⟨trivial, ⟨⟨trivial, ⟨trivial, (okOf_ok (os := os14) (i := 0) (o := orc14_0) rfl (snd14_0 n))⟩⟩, ⟨trivial, ⟨trivial, trivial⟩⟩⟩⟩⟩) t14 (by kernel_rfl)
    (all_ins (Q := fun i sh => ∀ ls, fillA sh ls (fun args h => fnK (ckOf es14) (okOf os14) sf14 kc14 args h (findRes aout14 0) none) none = g14 (i, ls)) (l := ain14) ⟨fun ls => by kernel_rfl, trivial⟩)
/-! function 5 -/
def es5 : List (FuncId × Ent) := [(10, awakeE), (12, ent12), (13, ent13), (14, ent14)]
theorem ck5 (n : Nat) : CallKOk (ckOf es5) (evF tab (n + 20)) :=
  ckOf_cons (ok10 (n + 0)) (ckOf_cons (ok12 (n + 19)) (ckOf_cons (ok13 (n + 19)) (ckOf_cons (ok14 (n + 18)) (ckOf_nil))))
def kc5_0 : KC := (.seq (.seq (.seq (.reg r5_6) (.cond (.t 31) .skip (.seq (.kill [4, 8, 9, 10, 11, 12, 20, 31, 59, 72, 77]) (.exit 0)))) (.seq (.block 1 (.seq (.seq (.reg r5_7) (.cond (.t 59) (.seq (.reg r5_8) (.seq (.kill [0, 1, 5, 6, 7, 8, 9, 10, 11, 12, 20, 31, 59, 72, 77]) .ret)) .skip)) (.seq (.reg r5_9) (.seq (.seq (.reg r5_10) (.cond (.t 72) (.reg r5_11) .skip)) (.seq (.seq (.reg r5_12) (.cond (.t 77) (.reg r5_13) .skip)) (.reg r5_14)))))) (.reg r5_15))) (.kill [4, 9, 10, 11, 12, 20, 31, 59, 72, 77]))
def in5_0 : List SPat := [⟨[(0, (.slice 0 (.c 0) .h 1)), (1, (.slice 1 (.c 0) .h 1)), (4, .unk), (5, (.int .i64)), (6, (.int .i64)), (7, (.int .i64)), (8, (.int .i64)), (9, .unk), (10, .unk), (11, .unk), (12, .unk), (20, .unk), (31, .unk), (59, .unk), (72, .unk), (77, .unk)], [(false, (.ints .i64)), (false, (.ints .i64))], [], 2⟩]
def out5_0 : List (SX × SPat) := [((.exit 0), ⟨[(0, (.slice 0 (.c 0) .h 1)), (1, (.slice 1 (.c 0) .h 1)), (4, .unk), (5, (.int .i64)), (6, (.int .i64)), (7, (.int .i64)), (8, .unk), (9, .unk), (10, .unk), (11, .unk), (12, .unk), (20, .unk), (31, .unk), (59, .unk), (72, .unk), (77, .unk)], [(false, (.ints .i64)), (false, (.ints .i64))], [], 2⟩), (.ret, ⟨[(0, .unk), (1, .unk), (4, .bool), (5, .unk), (6, .unk), (7, .unk), (8, .unk), (9, .unk), (10, .unk), (11, .unk), (12, .unk), (20, .unk), (31, .unk), (59, .unk), (72, .unk), (77, .unk)], [(false, (.ints .i64)), (false, (.ints .i64))], [], 2⟩)]
def f5_0_0 (t0n : Nat) (t1n : Nat) (t5 : Int) (t6 : Int) (t7 : Int) (t8 : Int) (h0 : List Int) (h1 : List Int) : Option (Nat × List Leaf) :=
  cond (Decidable.decide (t8 < (↑t0n : Int))) (cond (Decidable.decide (t8 < (↑t1n : Int))) (if (0 : Int) ≤ t8 ∧ t8 < (↑t0n : Int) then optK (h0[Int.toNat t8]?) (fun x1 => cond (Decidable.decide (x1 < (-2147483648 : Int))) (altK (awakeL (0, [])) [fun r => asB r (fun x15 r => asE r (some (2, [.b (x15), .l (h0), .l (h1)])) none) none] none) (if (0 : Int) ≤ t8 ∧ t8 < (↑t0n : Int) then optK (h0[Int.toNat t8]?) (fun x2 => cond (Decidable.decide ((2147483647 : Int) < x2)) (altK (awakeL (0, [])) [fun r => asB r (fun x14 r => asE r (some (2, [.b (x14), .l (h0), .l (h1)])) none) none] none) (if (0 : Int) ≤ t8 ∧ t8 < (↑t1n : Int) then optK (h1[Int.toNat t8]?) (fun x3 => cond (Decidable.decide (x3 < (-2147483648 : Int))) (altK (awakeL (0, [])) [fun r => asB r (fun x13 r => asE r (some (2, [.b (x13), .l (h0), .l (h1)])) none) none] none) (if (0 : Int) ≤ t8 ∧ t8 < (↑t1n : Int) then optK (h1[Int.toNat t8]?) (fun x4 => cond (Decidable.decide ((2147483647 : Int) < x4)) (altK (awakeL (0, [])) [fun r => asB r (fun x12 r => asE r (some (2, [.b (x12), .l (h0), .l (h1)])) none) none] none) (if (0 : Int) ≤ t8 ∧ t8 < (↑t0n : Int) then optK (h0[Int.toNat t8]?) (fun x5 => if (0 : Int) ≤ t8 ∧ t8 < (↑t1n : Int) then optK (h1[Int.toNat t8]?) (fun x6 => altK (g12 (0, [.i (Go.IntKind.wrap Go.IntKind.i64 (x5 - x6))])) [fun r => asI r (fun x7 r => asE r (cond (Decidable.decide ((0 : Int) < x7)) (cond (Decidable.decide (t5 < x7)) (altK (g13 (0, [.i (t7), .i (Go.IntKind.wrap Go.IntKind.i64 (x7 * x7))])) [fun r => asI r (fun x11 r => asE r (some (0, [.n (t0n), .n (t1n), .i (x7), .i (Go.IntKind.wrap Go.IntKind.i64 (t6 + (1 : Int))), .i (x11), .i (Go.IntKind.wrap Go.IntKind.i64 (t8 + (1 : Int))), .l (h0), .l (h1)])) none) none] none) (altK (g13 (0, [.i (t7), .i (Go.IntKind.wrap Go.IntKind.i64 (x7 * x7))])) [fun r => asI r (fun x10 r => asE r (some (0, [.n (t0n), .n (t1n), .i (t5), .i (Go.IntKind.wrap Go.IntKind.i64 (t6 + (1 : Int))), .i (x10), .i (Go.IntKind.wrap Go.IntKind.i64 (t8 + (1 : Int))), .l (h0), .l (h1)])) none) none] none)) (cond (Decidable.decide (t5 < x7)) (altK (g13 (0, [.i (t7), .i (Go.IntKind.wrap Go.IntKind.i64 (x7 * x7))])) [fun r => asI r (fun x9 r => asE r (some (0, [.n (t0n), .n (t1n), .i (x7), .i (t6), .i (x9), .i (Go.IntKind.wrap Go.IntKind.i64 (t8 + (1 : Int))), .l (h0), .l (h1)])) none) none] none) (altK (g13 (0, [.i (t7), .i (Go.IntKind.wrap Go.IntKind.i64 (x7 * x7))])) [fun r => asI r (fun x8 r => asE r (some (0, [.n (t0n), .n (t1n), .i (t5), .i (t6), .i (x8), .i (Go.IntKind.wrap Go.IntKind.i64 (t8 + (1 : Int))), .l (h0), .l (h1)])) none) none] none))) none) none] none) (none) else none) (none) else none)) (none) else none)) (none) else none)) (none) else none)) (none) else none) (some (1, [.n (t0n), .n (t1n), .i (t5), .i (t6), .i (t7), .l (h0), .l (h1)]))) (some (1, [.n (t0n), .n (t1n), .i (t5), .i (t6), .i (t7), .l (h0), .l (h1)]))
def f5_0 (s : Nat × List Leaf) : Option (Nat × List Leaf) := match s.1 with
  | 0 => let r := s.2; asN r (fun t0n r => asN r (fun t1n r => asI r (fun t5 r => asI r (fun t6 r => asI r (fun t7 r => asI r (fun t8 r => asL r (fun h0 r => asL r (fun h1 r => asE r (f5_0_0 t0n t1n t5 t6 t7 t8 h0 h1) none) none) none) none) none) none) none) none) none
  | _ => none
def L5_0 (s : Nat × List Leaf) : Option (Nat × List Leaf) := loopL 1 f5_0 s
def orc5_0 : Orc := ⟨in5_0, out5_0, L5_0⟩
def os5_0 : List Orc := []
theorem snd5_0 (n : Nat) : OrcSound (evF tab (n + 20)) (.loop l5_16) orc5_0 :=
  loop_sound (b := kc5_0) (OK := okOf os5_0) (ck5 n) (show OrcsOk (okOf os5_0) (evF tab (n + 20)) kc5_0 from ⟨⟨⟨trivial, ⟨trivial, ⟨trivial, trivial⟩⟩⟩, ⟨⟨⟨trivial, ⟨⟨trivial, ⟨trivial, trivial⟩⟩, trivial⟩⟩, ⟨trivial, ⟨⟨trivial, ⟨trivial, trivial⟩⟩, ⟨⟨trivial, ⟨trivial, trivial⟩⟩, trivial⟩⟩⟩⟩, trivial⟩⟩, trivial⟩) (ins := in5_0) (outs := out5_0) (f := f5_0) (by kernel_rfl)
    (all_ins (Q := fun i sh => ∀ ls, fillS sh ls (fun st => evK (ckOf es5) (okOf os5_0) kc5_0 st (findOut (in5_0.map (SX.normal, ·) ++ out5_0) 0) none) none = f5_0 (i, ls)) (l := in5_0) ⟨fun ls => by kernel_rfl, trivial⟩)
def kc5 : KC := (.seq (.reg r5_0) (.seq (.reg r5_1) (.seq (.reg r5_2) (.seq (.seq (.reg r5_3) (.cond (.t 20) (.seq (.reg r5_4) (.seq (.kill [0, 1, 5, 6, 7, 8, 9, 10, 11, 12, 20, 31, 59, 72, 77]) .ret)) .skip)) (.seq (.seq (.reg r5_5) (.block 0 (.seq (.kill [4, 9, 10, 11, 12, 20, 31, 59, 72, 77]) (.orc 0 (.loop l5_16))))) (.seq (.reg r5_17) (.seq (.reg r5_18) (.seq (.kill [0, 1, 5, 6, 7, 8, 9, 10, 11, 12, 20, 31, 59, 72, 77]) .ret))))))))
def ain5 : List APat := [⟨[(.slice 0 (.c 0) .h 1), (.slice 1 (.c 0) .h 1)], [(false, (.ints .i64)), (false, (.ints .i64))]⟩]
def aout5 : List RPat := [⟨.bool, [(false, (.ints .i64)), (false, (.ints .i64))], []⟩]
def g5_0 (a0n : Nat) (a1n : Nat) (h0 : List Int) (h1 : List Int) : Option (Nat × List Leaf) :=
  cond (Decidable.decide ((100 : Int) < (↑a0n : Int))) (altK (awakeL (0, [])) [fun r => asB r (fun x38 r => asE r (some (0, [.b (x38), .l (h0), .l (h1)])) none) none] none) (cond (Decidable.decide ((100 : Int) < (↑a1n : Int))) (altK (awakeL (0, [])) [fun r => asB r (fun x37 r => asE r (some (0, [.b (x37), .l (h0), .l (h1)])) none) none] none) (altK (L5_0 (0, [.n (a0n), .n (a1n), .i ((0 : Int)), .i ((0 : Int)), .i ((0 : Int)), .i ((0 : Int)), .l (h0), .l (h1)])) [fun r => asN r (fun x1n r => asN r (fun x2n r => asI r (fun x4 r => asI r (fun x5 r => asI r (fun x6 r => asL r (fun x17h0 r => asL r (fun x17h1 r => asE r (altK (g14 (0, [.n (x1n), .n (x2n), .l (x17h0), .l (x17h1)])) [fun r => asI r (fun x18_0 r => asI r (fun x18_1 r => asI r (fun x18_2 r => asL r (fun x18h0 r => asL r (fun x18h1 r => asE r (cond (Decidable.decide (x18_0 = x4)) (cond (Decidable.decide (x18_1 = x5)) (cond (Decidable.decide (x18_2 = x6)) (altK (awakeL (0, [])) [fun r => asB r (fun x19 r => asE r (some (0, [.b (x19), .l (x18h0), .l (x18h1)])) none) none] none) (some (0, [.b (Bool.false), .l (x18h0), .l (x18h1)]))) (some (0, [.b (Bool.false), .l (x18h0), .l (x18h1)]))) (some (0, [.b (Bool.false), .l (x18h0), .l (x18h1)]))) none) none) none) none) none) none] none) none) none) none) none) none) none) none) none, fun r => asB r (fun x22 r => asL r (fun x36h0 r => asL r (fun x36h1 r => asE r (some (0, [.b (x22), .l (x36h0), .l (x36h1)])) none) none) none) none] none))
def g5 (s : Nat × List Leaf) : Option (Nat × List Leaf) := match s.1 with
  | 0 => let r := s.2; asN r (fun a0n r => asN r (fun a1n r => asL r (fun h0 r => asL r (fun h1 r => asE r (g5_0 a0n a1n h0 h1) none) none) none) none) none
  | _ => none
def ent5 : Ent := ⟨ain5, aout5, g5⟩
def os5 : List Orc := [orc5_0]
theorem ok5 (n : Nat) : EntSound (evF tab (n + 21)) 5 ent5 :=
  fn_sound (n := n + 20) (ck5 n) (OK := okOf os5) (body := kc5) (show OrcsOk (okOf os5) (evF tab (n + 20)) kc5 from ⟨trivial, ⟨trivial, ⟨trivial, ⟨⟨trivial, ⟨⟨trivial, ⟨trivial, trivial⟩⟩, trivial⟩⟩, ⟨⟨trivial, ⟨trivial, (okOf_ok (os := os5) (i := 0) (o := orc5_0) rfl (snd5_0 n))⟩⟩, ⟨trivial, ⟨trivial, ⟨trivial, trivial⟩⟩⟩⟩⟩⟩⟩⟩) t5 (by kernel_rfl)
    (all_ins (Q := fun i sh => ∀ ls, fillA sh ls (fun args h => fnK (ckOf es5) (okOf os5) sf5 kc5 args h (findRes aout5 0) none) none = g5 (i, ls)) (l := ain5) ⟨fun ls => by kernel_rfl, trivial⟩)
/-! function 9 -/
def es9 : List (FuncId × Ent) := [(8, ent8)]
theorem ck9 (n : Nat) : CallKOk (ckOf es9) (evF tab (n + 1)) :=
  ckOf_cons (ok8 (n + 0)) (ckOf_nil)
def kc9_0 : KC := (.seq (.seq (.reg r9_3) (.seq (.cond (.t 13) .skip (.seq (.kill [0, 1, 2, 6, 9, 10, 11, 12, 13]) (.exit 0))) (.seq (.block 1 (.seq (.reg r9_4) (.reg r9_5))) (.reg r9_6)))) (.kill [2, 6, 9, 13]))
def in9_0 : List SPat := [⟨[(0, (.int .i64)), (1, (.int .i64)), (2, .unk), (6, .unk), (7, .str), (9, .unk), (10, (.slice 0 (.c 0) .h 1)), (11, (.int .i64)), (12, (.int .i64)), (13, .unk)], [(false, (.ints .i64))], [], 1⟩]
def out9_0 : List (SX × SPat) := [((.exit 0), ⟨[(0, .unk), (1, .unk), (2, .unk), (6, .unk), (7, .str), (9, .unk), (10, .unk), (11, .unk), (12, .unk), (13, .unk)], [(false, (.ints .i64))], [], 1⟩)]
def f9_0_0 (t0 : Int) (t1 : Int) (t7 : List UInt8) (t10n : Nat) (t11 : Int) (t12 : Int) (h0 : List Int) : Option (Nat × List Leaf) :=
  cond (Decidable.decide (t12 < t11)) (if (0 : Int) ≤ t12 ∧ t12 < (↑t10n : Int) then optK (h0[Int.toNat t12]?) (fun x1 => altK (g8 (0, [.i (x1), .i (t0), .i (t1)])) [fun r => asS r (fun x2 r => asE r (if List.length x2 + (1 : Nat) ≤ (9223372036854775807 : Nat) then if List.length t7 + List.length (x2 ++ [OfNat.ofNat (10 : Nat)]) ≤ (9223372036854775807 : Nat) then some (0, [.i (t0), .i (t1), .s (t7 ++ (x2 ++ [OfNat.ofNat (10 : Nat)])), .n (t10n), .i (t11), .i (Go.IntKind.wrap Go.IntKind.i64 (t12 + (1 : Int))), .l (h0)]) else none else none) none) none] none) (none) else none) (some (1, [.s (t7), .l (h0)]))
def f9_0 (s : Nat × List Leaf) : Option (Nat × List Leaf) := match s.1 with
  | 0 => let r := s.2; asI r (fun t0 r => asI r (fun t1 r => asS r (fun t7 r => asN r (fun t10n r => asI r (fun t11 r => asI r (fun t12 r => asL r (fun h0 r => asE r (f9_0_0 t0 t1 t7 t10n t11 t12 h0) none) none) none) none) none) none) none) none
  | _ => none
def L9_0 (s : Nat × List Leaf) : Option (Nat × List Leaf) := loopL 1 f9_0 s
def orc9_0 : Orc := ⟨in9_0, out9_0, L9_0⟩
def os9_0 : List Orc := []
theorem snd9_0 (n : Nat) : OrcSound (evF tab (n + 1)) (.loop l9_7) orc9_0 :=
  loop_sound (b := kc9_0) (OK := okOf os9_0) (ck9 n) (show OrcsOk (okOf os9_0) (evF tab (n + 1)) kc9_0 from ⟨⟨trivial, ⟨⟨trivial, ⟨trivial, trivial⟩⟩, ⟨⟨trivial, trivial⟩, trivial⟩⟩⟩, trivial⟩) (ins := in9_0) (outs := out9_0) (f := f9_0) (by kernel_rfl)
    (all_ins (Q := fun i sh => ∀ ls, fillS sh ls (fun st => evK (ckOf es9) (okOf os9_0) kc9_0 st (findOut (in9_0.map (SX.normal, ·) ++ out9_0) 0) none) none = f9_0 (i, ls)) (l := in9_0) ⟨fun ls => by kernel_rfl, trivial⟩)
def kc9 : KC := (.seq (.reg r9_0) (.seq (.reg r9_1) (.seq (.seq (.reg r9_2) (.block 0 (.seq (.kill [2, 6, 9, 13]) (.orc 0 (.loop l9_7))))) (.seq (.reg r9_8) (.seq (.kill [0, 1, 2, 7, 9, 10, 11, 12, 13]) .ret)))))
def ain9 : List APat := [⟨[(.int .i64), (.int .i64), (.slice 0 (.c 0) .h 1)], [(false, (.ints .i64))]⟩]
def aout9 : List RPat := [⟨.str, [(false, (.ints .i64))], []⟩]
def g9_0 (a0 : Int) (a1 : Int) (a2n : Nat) (h0 : List Int) : Option (Nat × List Leaf) :=
  altK (L9_0 (0, [.i (a0), .i (a1), .s ([]), .n (a2n), .i ((↑a2n : Int)), .i ((0 : Int)), .l (h0)])) [fun r => asS r (fun x5 r => asL r (fun x11h0 r => asE r (some (0, [.s (x5), .l (x11h0)])) none) none) none] none
def g9 (s : Nat × List Leaf) : Option (Nat × List Leaf) := match s.1 with
  | 0 => let r := s.2; asI r (fun a0 r => asI r (fun a1 r => asN r (fun a2n r => asL r (fun h0 r => asE r (g9_0 a0 a1 a2n h0) none) none) none) none) none
  | _ => none
def ent9 : Ent := ⟨ain9, aout9, g9⟩
def os9 : List Orc := [orc9_0]
theorem ok9 (n : Nat) : EntSound (evF tab (n + 2)) 9 ent9 :=
  fn_sound (n := n + 1) (ck9 n) (OK := okOf os9) (body := kc9) (show OrcsOk (okOf os9) (evF tab (n + 1)) kc9 from ⟨trivial, ⟨trivial, ⟨⟨trivial, ⟨trivial, (okOf_ok (os := os9) (i := 0) (o := orc9_0) rfl (snd9_0 n))⟩⟩, ⟨trivial, ⟨trivial, trivial⟩⟩⟩⟩⟩) t9 (by kernel_rfl)
    (all_ins (Q := fun i sh => ∀ ls, fillA sh ls (fun args h => fnK (ckOf es9) (okOf os9) sf9 kc9 args h (findRes aout9 0) none) none = g9 (i, ls)) (l := ain9) ⟨fun ls => by kernel_rfl, trivial⟩)
/-! function 3 -/
def es3 : List (FuncId × Ent) := [(8, ent8), (9, ent9), (10, awakeE)]
theorem ck3 (n : Nat) : CallKOk (ckOf es3) (evF tab (n + 20)) :=
  ckOf_cons (ok8 (n + 19)) (ckOf_cons (ok9 (n + 18)) (ckOf_cons (ok10 (n + 0)) (ckOf_nil)))
def kc3_0 : KC := (.seq (.seq (.seq (.reg r3_17) (.cond (.t 61) .skip (.seq (.kill [6, 9, 11, 14, 20, 35, 44, 47, 58, 61, 67]) (.exit 2)))) (.seq (.block 3 (.seq (.reg r3_18) (.cond (.t 67) (.seq (.reg r3_19) (.seq (.kill [0, 1, 2, 7, 8, 9, 10, 11, 14, 20, 35, 44, 47, 58, 61, 67]) .ret)) .skip))) (.reg r3_20))) (.kill [6, 14, 20, 35, 44, 47, 58, 61, 67]))
def in3_0 : List SPat := [⟨[(0, (.int .i64)), (1, (.int .i64)), (2, (.slice 0 (.c 0) .h 1)), (6, .unk), (7, .str), (8, (.int .i64)), (9, (.int .i64)), (10, .str), (11, (.int .i64)), (14, .unk), (20, .unk), (35, .unk), (44, .unk), (47, .unk), (58, .unk), (61, .unk), (67, .unk)], [(false, (.ints .i64))], [], 1⟩]
def out3_0 : List (SX × SPat) := [((.exit 2), ⟨[(0, (.int .i64)), (1, (.int .i64)), (2, (.slice 0 (.c 0) .h 1)), (6, .unk), (7, .str), (8, (.int .i64)), (9, .unk), (10, .str), (11, .unk), (14, .unk), (20, .unk), (35, .unk), (44, .unk), (47, .unk), (58, .unk), (61, .unk), (67, .unk)], [(false, (.ints .i64))], [], 1⟩), (.ret, ⟨[(0, .unk), (1, .unk), (2, .unk), (6, (.cbool false)), (7, .unk), (8, .unk), (9, .unk), (10, .unk), (11, .unk), (14, .unk), (20, .unk), (35, .unk), (44, .unk), (47, .unk), (58, .unk), (61, .unk), (67, .unk)], [(false, (.ints .i64))], [], 1⟩)]
def f3_0_0 (t0 : Int) (t1 : Int) (t2n : Nat) (t7 : List UInt8) (t8 : Int) (t9 : Int) (t10 : List UInt8) (t11 : Int) (h0 : List Int) : Option (Nat × List Leaf) :=
  cond (Decidable.decide (t11 < t9)) (if (0 : Int) ≤ t11 ∧ t11 < (↑(List.length t10) : Int) then optK (t10[Int.toNat t11]?) (fun x1 => cond (Decidable.decide ((↑(UInt8.toNat x1) : Int) ≠ (35 : Int))) (some (2, [.l (h0)])) (some (0, [.i (t0), .i (t1), .n (t2n), .s (t7), .i (t8), .i (t9), .s (t10), .i (Go.IntKind.wrap Go.IntKind.i64 (t11 + (1 : Int))), .l (h0)]))) (none) else none) (some (1, [.i (t0), .i (t1), .n (t2n), .s (t7), .i (t8), .s (t10), .l (h0)]))
def f3_0 (s : Nat × List Leaf) : Option (Nat × List Leaf) := match s.1 with
  | 0 => let r := s.2; asI r (fun t0 r => asI r (fun t1 r => asN r (fun t2n r => asS r (fun t7 r => asI r (fun t8 r => asI r (fun t9 r => asS r (fun t10 r => asI r (fun t11 r => asL r (fun h0 r => asE r (f3_0_0 t0 t1 t2n t7 t8 t9 t10 t11 h0) none) none) none) none) none) none) none) none) none) none
  | _ => none
def L3_0 (s : Nat × List Leaf) : Option (Nat × List Leaf) := loopL 1 f3_0 s
def orc3_0 : Orc := ⟨in3_0, out3_0, L3_0⟩
def os3_0 : List Orc := []
theorem snd3_0 (n : Nat) : OrcSound (evF tab (n + 20)) (.loop l3_21) orc3_0 :=
  loop_sound (b := kc3_0) (OK := okOf os3_0) (ck3 n) (show OrcsOk (okOf os3_0) (evF tab (n + 20)) kc3_0 from ⟨⟨⟨trivial, ⟨trivial, ⟨trivial, trivial⟩⟩⟩, ⟨⟨trivial, ⟨⟨trivial, ⟨trivial, trivial⟩⟩, trivial⟩⟩, trivial⟩⟩, trivial⟩) (ins := in3_0) (outs := out3_0) (f := f3_0) (by kernel_rfl)
    (all_ins (Q := fun i sh => ∀ ls, fillS sh ls (fun st => evK (ckOf es3) (okOf os3_0) kc3_0 st (findOut (in3_0.map (SX.normal, ·) ++ out3_0) 0) none) none = f3_0 (i, ls)) (l := in3_0) ⟨fun ls => by kernel_rfl, trivial⟩)
def kc3_1 : KC := (.seq (.seq (.seq (.reg r3_5) (.cond (.t 20) .skip (.seq (.kill [6, 8, 9, 10, 11, 14, 20, 35, 44, 47, 58, 61, 67]) (.exit 0)))) (.seq (.block 1 (.seq (.reg r3_6) (.seq (.seq (.reg r3_7) (.cond (.t 35) (.seq (.reg r3_8) (.seq (.seq (.reg r3_9) (.cond (.t 44) (.reg r3_10) .skip)) (.seq (.reg r3_11) (.cond (.t 47) (.reg r3_12) .skip)))) .skip)) (.seq (.reg r3_13) (.seq (.seq (.reg r3_14) (.cond (.t 58) (.seq (.reg r3_15) (.seq (.kill [0, 1, 2, 7, 8, 9, 10, 11, 14, 20, 35, 44, 47, 58, 61, 67]) .ret)) .skip)) (.seq (.seq (.reg r3_16) (.block 2 (.seq (.kill [6, 14, 20, 35, 44, 47, 58, 61, 67]) (.orc 0 (.loop l3_21))))) (.reg r3_22))))))) (.reg r3_23))) (.kill [6, 9, 10, 11, 14, 20, 35, 44, 47, 58, 61, 67]))
def in3_1 : List SPat := [⟨[(0, (.int .i64)), (1, (.int .i64)), (2, (.slice 0 (.c 0) .h 1)), (6, .unk), (7, .str), (8, (.int .i64)), (9, .unk), (10, .unk), (11, .unk), (14, .unk), (20, .unk), (35, .unk), (44, .unk), (47, .unk), (58, .unk), (61, .unk), (67, .unk)], [(false, (.ints .i64))], [], 1⟩]
def out3_1 : List (SX × SPat) := [((.exit 0), ⟨[(0, (.int .i64)), (1, (.int .i64)), (2, (.slice 0 (.c 0) .h 1)), (6, .unk), (7, .str), (8, .unk), (9, .unk), (10, .unk), (11, .unk), (14, .unk), (20, .unk), (35, .unk), (44, .unk), (47, .unk), (58, .unk), (61, .unk), (67, .unk)], [(false, (.ints .i64))], [], 1⟩), (.ret, ⟨[(0, .unk), (1, .unk), (2, .unk), (6, (.cbool false)), (7, .unk), (8, .unk), (9, .unk), (10, .unk), (11, .unk), (14, .unk), (20, .unk), (35, .unk), (44, .unk), (47, .unk), (58, .unk), (61, .unk), (67, .unk)], [(false, (.ints .i64))], [], 1⟩)]
def f3_1_0 (t0 : Int) (t1 : Int) (t2n : Nat) (t7 : List UInt8) (t8 : Int) (h0 : List Int) : Option (Nat × List Leaf) :=
  cond (Decidable.decide (t8 < (↑t2n : Int))) (if (0 : Int) ≤ t8 ∧ t8 < (↑t2n : Int) then optK (h0[Int.toNat t8]?) (fun x1 => cond (Decidable.decide ((0 : Int) ≤ x1)) (cond (Decidable.decide ((1 : Int) ≤ t0)) (cond (Decidable.decide ((0 : Int) ≤ t1)) (if (0 : Int) ≤ t8 ∧ t8 < (↑t2n : Int) then optK (h0[Int.toNat t8]?) (fun x116 => if t0 = (0 : Int) then none else cond (Decidable.decide (t1 < Go.IntKind.wrap Go.IntKind.i64 (Int.tdiv x116 t0))) (cond (Decidable.decide ((1000 : Int) < t1)) (if (0 : Int) ≤ t8 ∧ t8 < (↑t2n : Int) then optK (h0[Int.toNat t8]?) (fun x231 => altK (g8 (0, [.i (x231), .i (t0), .i (t1)])) [fun r => asS r (fun x232 r => asE r (cond (Decidable.decide ((↑(List.length x232) : Int) ≠ (1000 : Int))) (some (2, [.l (h0)])) (altK (L3_0 (0, [.i (t0), .i (t1), .n (t2n), .s (t7), .i (t8), .i ((1000 : Int)), .s (x232), .i ((0 : Int)), .l (h0)])) [fun r => asI r (fun x233 r => asI r (fun x234 r => asN r (fun x235n r => asS r (fun x237 r => asI r (fun x238 r => asS r (fun x240 r => asL r (fun x250h0 r => asE r (if List.length x237 + List.length x240 ≤ (9223372036854775807 : Nat) then if List.length (x237 ++ x240) + (1 : Nat) ≤ (9223372036854775807 : Nat) then some (0, [.i (x233), .i (x234), .n (x235n), .s (x237 ++ x240 ++ [OfNat.ofNat (10 : Nat)]), .i (Go.IntKind.wrap Go.IntKind.i64 (x238 + (1 : Int))), .l (x250h0)]) else none else none) none) none) none) none) none) none) none) none, fun r => asL r (fun x268h0 r => asE r (some (2, [.l (x268h0)])) none) none] none)) none) none] none) (none) else none) (if (0 : Int) ≤ t8 ∧ t8 < (↑t2n : Int) then optK (h0[Int.toNat t8]?) (fun x193 => altK (g8 (0, [.i (x193), .i (t0), .i (t1)])) [fun r => asS r (fun x194 r => asE r (cond (Decidable.decide ((↑(List.length x194) : Int) ≠ t1)) (some (2, [.l (h0)])) (altK (L3_0 (0, [.i (t0), .i (t1), .n (t2n), .s (t7), .i (t8), .i (t1), .s (x194), .i ((0 : Int)), .l (h0)])) [fun r => asI r (fun x195 r => asI r (fun x196 r => asN r (fun x197n r => asS r (fun x199 r => asI r (fun x200 r => asS r (fun x202 r => asL r (fun x212h0 r => asE r (if List.length x199 + List.length x202 ≤ (9223372036854775807 : Nat) then if List.length (x199 ++ x202) + (1 : Nat) ≤ (9223372036854775807 : Nat) then some (0, [.i (x195), .i (x196), .n (x197n), .s (x199 ++ x202 ++ [OfNat.ofNat (10 : Nat)]), .i (Go.IntKind.wrap Go.IntKind.i64 (x200 + (1 : Int))), .l (x212h0)]) else none else none) none) none) none) none) none) none) none) none, fun r => asL r (fun x230h0 r => asE r (some (2, [.l (x230h0)])) none) none] none)) none) none] none) (none) else none)) (cond (Decidable.decide ((1000 : Int) < Go.IntKind.wrap Go.IntKind.i64 (Int.tdiv x116 t0))) (if (0 : Int) ≤ t8 ∧ t8 < (↑t2n : Int) then optK (h0[Int.toNat t8]?) (fun x155 => altK (g8 (0, [.i (x155), .i (t0), .i (t1)])) [fun r => asS r (fun x156 r => asE r (cond (Decidable.decide ((↑(List.length x156) : Int) ≠ (1000 : Int))) (some (2, [.l (h0)])) (altK (L3_0 (0, [.i (t0), .i (t1), .n (t2n), .s (t7), .i (t8), .i ((1000 : Int)), .s (x156), .i ((0 : Int)), .l (h0)])) [fun r => asI r (fun x157 r => asI r (fun x158 r => asN r (fun x159n r => asS r (fun x161 r => asI r (fun x162 r => asS r (fun x164 r => asL r (fun x174h0 r => asE r (if List.length x161 + List.length x164 ≤ (9223372036854775807 : Nat) then if List.length (x161 ++ x164) + (1 : Nat) ≤ (9223372036854775807 : Nat) then some (0, [.i (x157), .i (x158), .n (x159n), .s (x161 ++ x164 ++ [OfNat.ofNat (10 : Nat)]), .i (Go.IntKind.wrap Go.IntKind.i64 (x162 + (1 : Int))), .l (x174h0)]) else none else none) none) none) none) none) none) none) none) none, fun r => asL r (fun x192h0 r => asE r (some (2, [.l (x192h0)])) none) none] none)) none) none] none) (none) else none) (if (0 : Int) ≤ t8 ∧ t8 < (↑t2n : Int) then optK (h0[Int.toNat t8]?) (fun x117 => altK (g8 (0, [.i (x117), .i (t0), .i (t1)])) [fun r => asS r (fun x118 r => asE r (cond (Decidable.decide ((↑(List.length x118) : Int) ≠ Go.IntKind.wrap Go.IntKind.i64 (Int.tdiv x116 t0))) (some (2, [.l (h0)])) (altK (L3_0 (0, [.i (t0), .i (t1), .n (t2n), .s (t7), .i (t8), .i (Go.IntKind.wrap Go.IntKind.i64 (Int.tdiv x116 t0)), .s (x118), .i ((0 : Int)), .l (h0)])) [fun r => asI r (fun x119 r => asI r (fun x120 r => asN r (fun x121n r => asS r (fun x123 r => asI r (fun x124 r => asS r (fun x126 r => asL r (fun x136h0 r => asE r (if List.length x123 + List.length x126 ≤ (9223372036854775807 : Nat) then if List.length (x123 ++ x126) + (1 : Nat) ≤ (9223372036854775807 : Nat) then some (0, [.i (x119), .i (x120), .n (x121n), .s (x123 ++ x126 ++ [OfNat.ofNat (10 : Nat)]), .i (Go.IntKind.wrap Go.IntKind.i64 (x124 + (1 : Int))), .l (x136h0)]) else none else none) none) none) none) none) none) none) none) none, fun r => asL r (fun x154h0 r => asE r (some (2, [.l (x154h0)])) none) none] none)) none) none] none) (none) else none))) (none) else none) (if (0 : Int) ≤ t8 ∧ t8 < (↑t2n : Int) then optK (h0[Int.toNat t8]?) (fun x78 => altK (g8 (0, [.i (x78), .i (t0), .i (t1)])) [fun r => asS r (fun x79 r => asE r (cond (Decidable.decide ((↑(List.length x79) : Int) ≠ (0 : Int))) (some (2, [.l (h0)])) (altK (L3_0 (0, [.i (t0), .i (t1), .n (t2n), .s (t7), .i (t8), .i ((0 : Int)), .s (x79), .i ((0 : Int)), .l (h0)])) [fun r => asI r (fun x80 r => asI r (fun x81 r => asN r (fun x82n r => asS r (fun x84 r => asI r (fun x85 r => asS r (fun x87 r => asL r (fun x97h0 r => asE r (if List.length x84 + List.length x87 ≤ (9223372036854775807 : Nat) then if List.length (x84 ++ x87) + (1 : Nat) ≤ (9223372036854775807 : Nat) then some (0, [.i (x80), .i (x81), .n (x82n), .s (x84 ++ x87 ++ [OfNat.ofNat (10 : Nat)]), .i (Go.IntKind.wrap Go.IntKind.i64 (x85 + (1 : Int))), .l (x97h0)]) else none else none) none) none) none) none) none) none) none) none, fun r => asL r (fun x115h0 r => asE r (some (2, [.l (x115h0)])) none) none] none)) none) none] none) (none) else none)) (if (0 : Int) ≤ t8 ∧ t8 < (↑t2n : Int) then optK (h0[Int.toNat t8]?) (fun x40 => altK (g8 (0, [.i (x40), .i (t0), .i (t1)])) [fun r => asS r (fun x41 r => asE r (cond (Decidable.decide ((↑(List.length x41) : Int) ≠ (0 : Int))) (some (2, [.l (h0)])) (altK (L3_0 (0, [.i (t0), .i (t1), .n (t2n), .s (t7), .i (t8), .i ((0 : Int)), .s (x41), .i ((0 : Int)), .l (h0)])) [fun r => asI r (fun x42 r => asI r (fun x43 r => asN r (fun x44n r => asS r (fun x46 r => asI r (fun x47 r => asS r (fun x49 r => asL r (fun x59h0 r => asE r (if List.length x46 + List.length x49 ≤ (9223372036854775807 : Nat) then if List.length (x46 ++ x49) + (1 : Nat) ≤ (9223372036854775807 : Nat) then some (0, [.i (x42), .i (x43), .n (x44n), .s (x46 ++ x49 ++ [OfNat.ofNat (10 : Nat)]), .i (Go.IntKind.wrap Go.IntKind.i64 (x47 + (1 : Int))), .l (x59h0)]) else none else none) none) none) none) none) none) none) none) none, fun r => asL r (fun x77h0 r => asE r (some (2, [.l (x77h0)])) none) none] none)) none) none] none) (none) else none)) (if (0 : Int) ≤ t8 ∧ t8 < (↑t2n : Int) then optK (h0[Int.toNat t8]?) (fun x2 => altK (g8 (0, [.i (x2), .i (t0), .i (t1)])) [fun r => asS r (fun x3 r => asE r (cond (Decidable.decide ((↑(List.length x3) : Int) ≠ (0 : Int))) (some (2, [.l (h0)])) (altK (L3_0 (0, [.i (t0), .i (t1), .n (t2n), .s (t7), .i (t8), .i ((0 : Int)), .s (x3), .i ((0 : Int)), .l (h0)])) [fun r => asI r (fun x4 r => asI r (fun x5 r => asN r (fun x6n r => asS r (fun x8 r => asI r (fun x9 r => asS r (fun x11 r => asL r (fun x21h0 r => asE r (if List.length x8 + List.length x11 ≤ (9223372036854775807 : Nat) then if List.length (x8 ++ x11) + (1 : Nat) ≤ (9223372036854775807 : Nat) then some (0, [.i (x4), .i (x5), .n (x6n), .s (x8 ++ x11 ++ [OfNat.ofNat (10 : Nat)]), .i (Go.IntKind.wrap Go.IntKind.i64 (x9 + (1 : Int))), .l (x21h0)]) else none else none) none) none) none) none) none) none) none) none, fun r => asL r (fun x39h0 r => asE r (some (2, [.l (x39h0)])) none) none] none)) none) none] none) (none) else none)) (none) else none) (some (1, [.i (t0), .i (t1), .n (t2n), .s (t7), .l (h0)]))
def f3_1 (s : Nat × List Leaf) : Option (Nat × List Leaf) := match s.1 with
  | 0 => let r := s.2; asI r (fun t0 r => asI r (fun t1 r => asN r (fun t2n r => asS r (fun t7 r => asI r (fun t8 r => asL r (fun h0 r => asE r (f3_1_0 t0 t1 t2n t7 t8 h0) none) none) none) none) none) none) none
  | _ => none
def L3_1 (s : Nat × List Leaf) : Option (Nat × List Leaf) := loopL 1 f3_1 s
def orc3_1 : Orc := ⟨in3_1, out3_1, L3_1⟩
def os3_1 : List Orc := [orc3_0]
theorem snd3_1 (n : Nat) : OrcSound (evF tab (n + 20)) (.loop l3_24) orc3_1 :=
  loop_sound (b := kc3_1) (OK := okOf os3_1) (ck3 n) (show OrcsOk (okOf os3_1) (evF tab (n + 20)) kc3_1 from ⟨⟨⟨trivial, ⟨trivial, ⟨trivial, trivial⟩⟩⟩, ⟨⟨trivial, ⟨⟨trivial, ⟨⟨trivial, ⟨⟨trivial, ⟨trivial, trivial⟩⟩, ⟨trivial, ⟨trivial, trivial⟩⟩⟩⟩, trivial⟩⟩, ⟨trivial, ⟨⟨trivial, ⟨⟨trivial, ⟨trivial, trivial⟩⟩, trivial⟩⟩, ⟨⟨trivial, ⟨trivial, (okOf_ok (os := os3_1) (i := 0) (o := orc3_0) rfl (snd3_0 n))⟩⟩, trivial⟩⟩⟩⟩⟩, trivial⟩⟩, trivial⟩) (ins := in3_1) (outs := out3_1) (f := f3_1) (by kernel_rfl)
    (all_ins (Q := fun i sh => ∀ ls, fillS sh ls (fun st => evK (ckOf es3) (okOf os3_1) kc3_1 st (findOut (in3_1.map (SX.normal, ·) ++ out3_1) 0) none) none = f3_1 (i, ls)) (l := in3_1) ⟨fun ls => by kernel_rfl, trivial⟩)
def kc3 : KC := (.seq (.reg r3_0) (.seq (.seq (.reg r3_1) (.cond (.t 14) (.reg r3_2) .skip)) (.seq (.reg r3_3) (.seq (.seq (.reg r3_4) (.block 0 (.seq (.kill [6, 9, 10, 11, 14, 20, 35, 44, 47, 58, 61, 67]) (.orc 1 (.loop l3_24))))) (.seq (.reg r3_25) (.seq (.kill [0, 1, 2, 7, 8, 9, 10, 11, 14, 20, 35, 44, 47, 58, 61, 67]) .ret))))))
def ain3 : List APat := [⟨[(.int .i64), (.int .i64), (.slice 0 (.c 0) .h 1)], [(false, (.ints .i64))]⟩]
def aout3 : List RPat := [⟨.bool, [(false, (.ints .i64))], []⟩]
def g3_0 (a0 : Int) (a1 : Int) (a2n : Nat) (h0 : List Int) : Option (Nat × List Leaf) :=
  cond (Decidable.decide ((20 : Int) < (↑a2n : Int))) (if (0 : Int) ≤ (20 : Int) ∧ (20 : Int) ≤ (↑a2n : Int) then altK (L3_1 (0, [.i (a0), .i (a1), .n ((20 : Nat)), .s ([]), .i ((0 : Int)), .l (h0)])) [fun r => asI r (fun x39 r => asI r (fun x40 r => asN r (fun x41n r => asS r (fun x43 r => asL r (fun x56h0 r => asE r (altK (g9 (0, [.i (x39), .i (x40), .n (x41n), .l (x56h0)])) [fun r => asS r (fun x57 r => asL r (fun x57h0 r => asE r (cond (Decidable.decide (x57 = x43)) (altK (awakeL (0, [])) [fun r => asB r (fun x58 r => asE r (some (0, [.b (x58), .l (x57h0)])) none) none] none) (some (0, [.b (Bool.false), .l (x57h0)]))) none) none) none] none) none) none) none) none) none) none, fun r => asL r (fun x76h0 r => asE r (some (0, [.b (Bool.false), .l (x76h0)])) none) none] none else none) (altK (L3_1 (0, [.i (a0), .i (a1), .n (a2n), .s ([]), .i ((0 : Int)), .l (h0)])) [fun r => asI r (fun x1 r => asI r (fun x2 r => asN r (fun x3n r => asS r (fun x5 r => asL r (fun x18h0 r => asE r (altK (g9 (0, [.i (x1), .i (x2), .n (x3n), .l (x18h0)])) [fun r => asS r (fun x19 r => asL r (fun x19h0 r => asE r (cond (Decidable.decide (x19 = x5)) (altK (awakeL (0, [])) [fun r => asB r (fun x20 r => asE r (some (0, [.b (x20), .l (x19h0)])) none) none] none) (some (0, [.b (Bool.false), .l (x19h0)]))) none) none) none] none) none) none) none) none) none) none, fun r => asL r (fun x38h0 r => asE r (some (0, [.b (Bool.false), .l (x38h0)])) none) none] none)
def g3 (s : Nat × List Leaf) : Option (Nat × List Leaf) := match s.1 with
  | 0 => let r := s.2; asI r (fun a0 r => asI r (fun a1 r => asN r (fun a2n r => asL r (fun h0 r => asE r (g3_0 a0 a1 a2n h0) none) none) none) none) none
  | _ => none
def ent3 : Ent := ⟨ain3, aout3, g3⟩
def os3 : List Orc := [orc3_0, orc3_1]
theorem ok3 (n : Nat) : EntSound (evF tab (n + 21)) 3 ent3 :=
  fn_sound (n := n + 20) (ck3 n) (OK := okOf os3) (body := kc3) (show OrcsOk (okOf os3) (evF tab (n + 20)) kc3 from ⟨trivial, ⟨⟨trivial, ⟨trivial, trivial⟩⟩, ⟨trivial, ⟨⟨trivial, ⟨trivial, (okOf_ok (os := os3) (i := 1) (o := orc3_1) rfl (snd3_1 n))⟩⟩, ⟨trivial, ⟨trivial, trivial⟩⟩⟩⟩⟩⟩) t3 (by kernel_rfl)
    (all_ins (Q := fun i sh => ∀ ls, fillA sh ls (fun args h => fnK (ckOf es3) (okOf os3) sf3 kc3 args h (findRes aout3 0) none) none = g3 (i, ls)) (l := ain3) ⟨fun ls => by kernel_rfl, trivial⟩)
end Go.Proofs.Ytmghafpbaigkaaa
