/-
  Functions of this seat as functions of leaves, by program, and that the abstract machine answers as they do. Conditions: none.
-/
import Derived.Test.YtjekhbenohnpnaaTab
import Derived.Test.YtjekhbenohnpnaaSxW
import Derived.KernelRfl
namespace Go.Proofs.Ytjekhbenohnpnaa
open Go Go.Sx
set_option maxRecDepth 100000
set_option linter.unusedVariables false
/-! function 15 -/
def es15 : List (FuncId × Ent) := []
theorem ck15 (n : Nat) : CallKOk (ckOf es15) (evF tab (n + 0)) :=
  ckOf_nil
def kc15 : KC := (.seq (.reg r15_0) (.seq (.block 0 (.seq (.reg r15_1) (.cond (.t 3) (.seq (.reg r15_2) (.seq (.kill [0, 3, 6]) .ret)) (.seq (.reg r15_3) (.cond (.t 6) (.seq (.reg r15_4) (.seq (.kill [0, 3, 6]) .ret)) .skip))))) (.seq (.reg r15_5) (.seq (.kill [0, 3, 6]) .ret))))
def ain15 : List APat := [⟨[(.int .i64)], []⟩]
def aout15 : List RPat := [⟨(.int .i64), [], []⟩]
def g15_0 (a0 : Int) : Option (Nat × List Leaf) :=
  cond (Decidable.decide (a0 = (-9223372036854775808 : Int))) (some (0, [.i ((9223372036854775807 : Int))])) (cond (Decidable.decide (a0 < (0 : Int))) (some (0, [.i (Go.IntKind.wrap Go.IntKind.i64 ((0 : Int) - a0))])) (some (0, [.i (a0)])))
def g15 (s : Nat × List Leaf) : Option (Nat × List Leaf) := match s.1 with
  | 0 => let r := s.2; asI r (fun a0 r => asE r (g15_0 a0) none) none
  | _ => none
def ent15 : Ent := ⟨ain15, aout15, g15⟩
def os15 : List Orc := []
theorem ok15 (n : Nat) : EntSound (evF tab (n + 1)) 15 ent15 :=
  fn_sound (n := n + 0) (ck15 n) (OK := okOf os15) (body := kc15) (show OrcsOk (okOf os15) (evF tab (n + 0)) kc15 from ⟨trivial, ⟨⟨trivial, ⟨⟨trivial, ⟨trivial, trivial⟩⟩, ⟨trivial, ⟨⟨trivial, ⟨trivial, trivial⟩⟩, trivial⟩⟩⟩⟩, ⟨trivial, ⟨trivial, trivial⟩⟩⟩⟩) t15 (by kernel_rfl)
    (all_ins (Q := fun i sh => ∀ ls, fillA sh ls (fun args h => fnK (ckOf es15) (okOf os15) sf15 kc15 args h (findRes aout15 0) none) none = g15 (i, ls)) (l := ain15) ⟨fun ls => by kernel_rfl, trivial⟩)
/-! function 18 -/
def es18 : List (FuncId × Ent) := []
theorem ck18 (n : Nat) : CallKOk (ckOf es18) (evF tab (n + 0)) :=
  ckOf_nil
def kc18 : KC := (.seq (.reg r18_0) (.seq (.block 0 (.seq (.reg r18_1) (.cond (.t 7) (.seq (.reg r18_2) (.seq (.kill [0, 1, 2, 7, 17]) .ret)) (.seq (.reg r18_3) (.cond (.t 17) (.seq (.reg r18_4) (.seq (.kill [0, 1, 2, 7, 17]) .ret)) .skip))))) (.seq (.reg r18_5) (.seq (.kill [0, 1, 2, 7, 17]) .ret))))
def ain18 : List APat := [⟨[(.int .i64), (.int .i64), (.int .i64)], []⟩]
def aout18 : List RPat := [⟨(.int .i64), [], []⟩]
def g18_0 (a0 : Int) (a1 : Int) (a2 : Int) : Option (Nat × List Leaf) :=
  cond (Decidable.decide (a0 < a1)) (some (0, [.i (a1)])) (cond (Decidable.decide (a2 < a1)) (some (0, [.i (a1)])) (cond (Decidable.decide (a2 < a0)) (some (0, [.i (a2)])) (some (0, [.i (a0)]))))
def g18 (s : Nat × List Leaf) : Option (Nat × List Leaf) := match s.1 with
  | 0 => let r := s.2; asI r (fun a0 r => asI r (fun a1 r => asI r (fun a2 r => asE r (g18_0 a0 a1 a2) none) none) none) none
  | _ => none
def ent18 : Ent := ⟨ain18, aout18, g18⟩
def os18 : List Orc := []
theorem ok18 (n : Nat) : EntSound (evF tab (n + 1)) 18 ent18 :=
  fn_sound (n := n + 0) (ck18 n) (OK := okOf os18) (body := kc18) (show OrcsOk (okOf os18) (evF tab (n + 0)) kc18 from ⟨trivial, ⟨⟨trivial, ⟨⟨trivial, ⟨trivial, trivial⟩⟩, ⟨trivial, ⟨⟨trivial, ⟨trivial, trivial⟩⟩, trivial⟩⟩⟩⟩, ⟨trivial, ⟨trivial, trivial⟩⟩⟩⟩) t18 (by kernel_rfl)
    (all_ins (Q := fun i sh => ∀ ls, fillA sh ls (fun args h => fnK (ckOf es18) (okOf os18) sf18 kc18 args h (findRes aout18 0) none) none = g18 (i, ls)) (l := ain18) ⟨fun ls => by kernel_rfl, trivial⟩)
/-! function 17 -/
def es17 : List (FuncId × Ent) := []
theorem ck17 (n : Nat) : CallKOk (ckOf es17) (evF tab (n + 0)) :=
  ckOf_nil
def kc17 : KC := (.seq (.reg r17_0) (.seq (.seq (.reg r17_1) (.cond (.t 7) (.seq (.reg r17_2) (.seq (.kill [0, 1, 5, 7, 14]) .ret)) .skip)) (.seq (.reg r17_3) (.seq (.seq (.reg r17_4) (.cond (.t 14) (.reg r17_5) .skip)) (.seq (.reg r17_6) (.seq (.kill [0, 1, 5, 7, 14]) .ret))))))
def ain17 : List APat := [⟨[(.int .i64), (.int .i64)], []⟩]
def aout17 : List RPat := [⟨(.int .i64), [], []⟩]
def g17_0 (a0 : Int) (a1 : Int) : Option (Nat × List Leaf) :=
  cond (Decidable.decide (a1 < (1 : Int))) (some (0, [.i ((0 : Int))])) (if a1 = (0 : Int) then none else if a1 = (0 : Int) then none else cond (Decidable.decide (Int.tmod a0 a1 < (0 : Int))) (some (0, [.i (Go.IntKind.wrap Go.IntKind.i64 (Go.IntKind.wrap Go.IntKind.i64 (Int.tdiv a0 a1) - (1 : Int)))])) (some (0, [.i (Go.IntKind.wrap Go.IntKind.i64 (Int.tdiv a0 a1))])))
def g17 (s : Nat × List Leaf) : Option (Nat × List Leaf) := match s.1 with
  | 0 => let r := s.2; asI r (fun a0 r => asI r (fun a1 r => asE r (g17_0 a0 a1) none) none) none
  | _ => none
def ent17 : Ent := ⟨ain17, aout17, g17⟩
def os17 : List Orc := []
theorem ok17 (n : Nat) : EntSound (evF tab (n + 1)) 17 ent17 :=
  fn_sound (n := n + 0) (ck17 n) (OK := okOf os17) (body := kc17) (show OrcsOk (okOf os17) (evF tab (n + 0)) kc17 from ⟨trivial, ⟨⟨trivial, ⟨⟨trivial, ⟨trivial, trivial⟩⟩, trivial⟩⟩, ⟨trivial, ⟨⟨trivial, ⟨trivial, trivial⟩⟩, ⟨trivial, ⟨trivial, trivial⟩⟩⟩⟩⟩⟩) t17 (by kernel_rfl)
    (all_ins (Q := fun i sh => ∀ ls, fillA sh ls (fun args h => fnK (ckOf es17) (okOf os17) sf17 kc17 args h (findRes aout17 0) none) none = g17 (i, ls)) (l := ain17) ⟨fun ls => by kernel_rfl, trivial⟩)
/-! function 6 -/
def es6 : List (FuncId × Ent) := []
theorem ck6 (n : Nat) : CallKOk (ckOf es6) (evF tab (n + 0)) :=
  ckOf_nil
def kc6_0 : KC := (.seq (.seq (.seq (.reg r6_5) (.cond (.t 9) .skip (.seq (.kill [0, 2, 4, 5, 7, 9, 19]) (.exit 0)))) (.seq (.block 1 (.seq (.reg r6_6) (.seq (.reg r6_7) (.cond (.t 19) (.reg r6_8) .skip)))) (.reg r6_9))) (.kill [2, 5, 7, 9, 19]))
def in6_0 : List SPat := [⟨[(0, (.int .i64)), (2, .unk), (3, (.int .i64)), (4, (.int .i64)), (5, .unk), (7, .unk), (9, .unk), (19, .unk)], [], []⟩]
def out6_0 : List (SX × SPat) := [((.exit 0), ⟨[(0, .unk), (2, .unk), (3, (.int .i64)), (4, .unk), (5, .unk), (7, .unk), (9, .unk), (19, .unk)], [], []⟩)]
def f6_0_0 (t0 : Int) (t3 : Int) (t4 : Int) : Option (Nat × List Leaf) :=
  cond (Decidable.decide ((0 : Int) < t4)) (if Go.IntKind.wrap Go.IntKind.i64 (t3 + t4) = (0 : Int) then none else cond (Decidable.decide (Go.IntKind.wrap Go.IntKind.i64 (t3 + t4) ≤ Go.IntKind.wrap Go.IntKind.i64 (Int.tdiv t0 (Go.IntKind.wrap Go.IntKind.i64 (t3 + t4))))) (some (0, [.i (t0), .i (Go.IntKind.wrap Go.IntKind.i64 (t3 + t4)), .i (Go.Sx.shrI Go.IntKind.i64 t4 (1 : Int))])) (some (0, [.i (t0), .i (t3), .i (Go.Sx.shrI Go.IntKind.i64 t4 (1 : Int))]))) (some (1, [.i (t3)]))
def f6_0 (s : Nat × List Leaf) : Option (Nat × List Leaf) := match s.1 with
  | 0 => let r := s.2; asI r (fun t0 r => asI r (fun t3 r => asI r (fun t4 r => asE r (f6_0_0 t0 t3 t4) none) none) none) none
  | _ => none
def L6_0 (s : Nat × List Leaf) : Option (Nat × List Leaf) := loopL 1 f6_0 s
def orc6_0 : Orc := ⟨in6_0, out6_0, L6_0⟩
def os6_0 : List Orc := []
theorem snd6_0 (n : Nat) : OrcSound (evF tab (n + 0)) (.loop l6_10) orc6_0 :=
  loop_sound (b := kc6_0) (OK := okOf os6_0) (ck6 n) (show OrcsOk (okOf os6_0) (evF tab (n + 0)) kc6_0 from ⟨⟨⟨trivial, ⟨trivial, ⟨trivial, trivial⟩⟩⟩, ⟨⟨trivial, ⟨trivial, ⟨trivial, trivial⟩⟩⟩, trivial⟩⟩, trivial⟩) (ins := in6_0) (outs := out6_0) (f := f6_0) (by kernel_rfl)
    (all_ins (Q := fun i sh => ∀ ls, fillS sh ls (fun st => evK (ckOf es6) (okOf os6_0) kc6_0 st (findOut (in6_0.map (SX.normal, ·) ++ out6_0) 0) none) none = f6_0 (i, ls)) (l := in6_0) ⟨fun ls => by kernel_rfl, trivial⟩)
def kc6 : KC := (.seq (.reg r6_0) (.seq (.seq (.reg r6_1) (.cond (.t 7) (.seq (.reg r6_2) (.seq (.kill [0, 3, 4, 5, 7, 9, 19]) .ret)) .skip)) (.seq (.reg r6_3) (.seq (.seq (.reg r6_4) (.block 0 (.seq (.kill [2, 5, 7, 9, 19]) (.orc 0 (.loop l6_10))))) (.seq (.reg r6_11) (.seq (.kill [0, 3, 4, 5, 7, 9, 19]) .ret))))))
def ain6 : List APat := [⟨[(.int .i64)], []⟩]
def aout6 : List RPat := [⟨(.int .i64), [], []⟩]
def g6_0 (a0 : Int) : Option (Nat × List Leaf) :=
  cond (Decidable.decide (a0 < (1 : Int))) (some (0, [.i ((0 : Int))])) (altK (L6_0 (0, [.i (a0), .i ((0 : Int)), .i ((2147483648 : Int))])) [fun r => asI r (fun x3 r => asE r (some (0, [.i (x3)])) none) none] none)
def g6 (s : Nat × List Leaf) : Option (Nat × List Leaf) := match s.1 with
  | 0 => let r := s.2; asI r (fun a0 r => asE r (g6_0 a0) none) none
  | _ => none
def ent6 : Ent := ⟨ain6, aout6, g6⟩
def os6 : List Orc := [orc6_0]
theorem ok6 (n : Nat) : EntSound (evF tab (n + 1)) 6 ent6 :=
  fn_sound (n := n + 0) (ck6 n) (OK := okOf os6) (body := kc6) (show OrcsOk (okOf os6) (evF tab (n + 0)) kc6 from ⟨trivial, ⟨⟨trivial, ⟨⟨trivial, ⟨trivial, trivial⟩⟩, trivial⟩⟩, ⟨trivial, ⟨⟨trivial, ⟨trivial, (okOf_ok (os := os6) (i := 0) (o := orc6_0) rfl (snd6_0 n))⟩⟩, ⟨trivial, ⟨trivial, trivial⟩⟩⟩⟩⟩⟩) t6 (by kernel_rfl)
    (all_ins (Q := fun i sh => ∀ ls, fillA sh ls (fun args h => fnK (ckOf es6) (okOf os6) sf6 kc6 args h (findRes aout6 0) none) none = g6 (i, ls)) (l := ain6) ⟨fun ls => by kernel_rfl, trivial⟩)
/-! function 16 -/
def es16 : List (FuncId × Ent) := [(18, ent18)]
theorem ck16 (n : Nat) : CallKOk (ckOf es16) (evF tab (n + 1)) :=
  ckOf_cons (ok18 (n + 0)) (ckOf_nil)
def kc16 : KC := (.seq (.reg r16_0) (.seq (.reg r16_1) (.seq (.kill [0]) .ret)))
def ain16 : List APat := [⟨[(.int .i64)], []⟩]
def aout16 : List RPat := [⟨(.int .i64), [], []⟩]
def g16_0 (a0 : Int) : Option (Nat × List Leaf) :=
  altK (g18 (0, [.i (a0), .i ((-1 : Int)), .i ((1 : Int))])) [fun r => asI r (fun x1 r => asE r (some (0, [.i (x1)])) none) none] none
def g16 (s : Nat × List Leaf) : Option (Nat × List Leaf) := match s.1 with
  | 0 => let r := s.2; asI r (fun a0 r => asE r (g16_0 a0) none) none
  | _ => none
def ent16 : Ent := ⟨ain16, aout16, g16⟩
def os16 : List Orc := []
theorem ok16 (n : Nat) : EntSound (evF tab (n + 2)) 16 ent16 :=
  fn_sound (n := n + 1) (ck16 n) (OK := okOf os16) (body := kc16) (show OrcsOk (okOf os16) (evF tab (n + 1)) kc16 from ⟨trivial, ⟨trivial, ⟨trivial, trivial⟩⟩⟩) t16 (by kernel_rfl)
    (all_ins (Q := fun i sh => ∀ ls, fillA sh ls (fun args h => fnK (ckOf es16) (okOf os16) sf16 kc16 args h (findRes aout16 0) none) none = g16 (i, ls)) (l := ain16) ⟨fun ls => by kernel_rfl, trivial⟩)
/-! function 14 -/
def es14 : List (FuncId × Ent) := []
theorem ck14 (n : Nat) : CallKOk (ckOf es14) (evF tab (n + 0)) :=
  ckOf_nil
def kc14 : KC := (.seq (.reg r14_0) (.seq (.seq (.reg r14_1) (.cond (.t 4) (.seq (.reg r14_2) (.seq (.kill [0, 4, 6]) .ret)) .skip)) (.seq (.seq (.reg r14_3) (.cond (.t 6) (.seq (.reg r14_4) (.seq (.kill [0, 4, 6]) .ret)) .skip)) (.seq (.reg r14_5) (.seq (.kill [0, 4, 6]) .ret)))))
def ain14 : List APat := [⟨[(.int .i64)], []⟩]
def aout14 : List RPat := [⟨(.int .i64), [], []⟩]
def g14_0 (a0 : Int) : Option (Nat × List Leaf) :=
  cond (Decidable.decide (a0 < (0 : Int))) (some (0, [.i ((-1 : Int))])) (cond (Decidable.decide ((0 : Int) < a0)) (some (0, [.i ((1 : Int))])) (some (0, [.i ((0 : Int))])))
def g14 (s : Nat × List Leaf) : Option (Nat × List Leaf) := match s.1 with
  | 0 => let r := s.2; asI r (fun a0 r => asE r (g14_0 a0) none) none
  | _ => none
def ent14 : Ent := ⟨ain14, aout14, g14⟩
def os14 : List Orc := []
theorem ok14 (n : Nat) : EntSound (evF tab (n + 1)) 14 ent14 :=
  fn_sound (n := n + 0) (ck14 n) (OK := okOf os14) (body := kc14) (show OrcsOk (okOf os14) (evF tab (n + 0)) kc14 from ⟨trivial, ⟨⟨trivial, ⟨⟨trivial, ⟨trivial, trivial⟩⟩, trivial⟩⟩, ⟨⟨trivial, ⟨⟨trivial, ⟨trivial, trivial⟩⟩, trivial⟩⟩, ⟨trivial, ⟨trivial, trivial⟩⟩⟩⟩⟩) t14 (by kernel_rfl)
    (all_ins (Q := fun i sh => ∀ ls, fillA sh ls (fun args h => fnK (ckOf es14) (okOf os14) sf14 kc14 args h (findRes aout14 0) none) none = g14 (i, ls)) (l := ain14) ⟨fun ls => by kernel_rfl, trivial⟩)
/-! function 7: closed -/
theorem ok7 (n : Nat) : EntSound (evF tab (n + 20)) 7 awakeE := awake_sound (by kernel_rfl)
/-! function 3 -/
def es3 : List (FuncId × Ent) := [(6, ent6), (7, awakeE)]
theorem ck3 (n : Nat) : CallKOk (ckOf es3) (evF tab (n + 20)) :=
  ckOf_cons (ok6 (n + 19)) (ckOf_cons (ok7 (n + 0)) (ckOf_nil))
def kc3 : KC := (.seq (.reg r3_0) (.seq (.reg r3_1) (.seq (.seq (.reg r3_2) (.cond (.t 7) (.seq (.reg r3_3) (.seq (.kill [0, 3, 7]) .ret)) .skip)) (.seq (.reg r3_4) (.seq (.kill [0, 3, 7]) .ret)))))
def ain3 : List APat := [⟨[(.int .i64)], []⟩]
def aout3 : List RPat := [⟨.bool, [], []⟩]
def g3_0 (a0 : Int) : Option (Nat × List Leaf) :=
  altK (g6 (0, [.i (a0)])) [fun r => asI r (fun x1 r => asE r (cond (Decidable.decide (a0 < (1 : Int))) (cond (Decidable.decide (x1 = (0 : Int))) (altK (awakeL (0, [])) [fun r => asB r (fun x3 r => asE r (some (0, [.b (x3)])) none) none] none) (some (0, [.b (Bool.false)]))) (cond (Decidable.decide ((0 : Int) < x1)) (if x1 = (0 : Int) then none else cond (Decidable.decide (x1 ≤ Go.IntKind.wrap Go.IntKind.i64 (Int.tdiv a0 x1))) (if Go.IntKind.wrap Go.IntKind.i64 (x1 + (1 : Int)) = (0 : Int) then none else cond (Decidable.decide (Go.IntKind.wrap Go.IntKind.i64 (Int.tdiv a0 (Go.IntKind.wrap Go.IntKind.i64 (x1 + (1 : Int)))) < Go.IntKind.wrap Go.IntKind.i64 (x1 + (1 : Int)))) (altK (awakeL (0, [])) [fun r => asB r (fun x2 r => asE r (some (0, [.b (x2)])) none) none] none) (some (0, [.b (Bool.false)]))) (some (0, [.b (Bool.false)]))) (some (0, [.b (Bool.false)])))) none) none] none
def g3 (s : Nat × List Leaf) : Option (Nat × List Leaf) := match s.1 with
  | 0 => let r := s.2; asI r (fun a0 r => asE r (g3_0 a0) none) none
  | _ => none
def ent3 : Ent := ⟨ain3, aout3, g3⟩
def os3 : List Orc := []
theorem ok3 (n : Nat) : EntSound (evF tab (n + 21)) 3 ent3 :=
  fn_sound (n := n + 20) (ck3 n) (OK := okOf os3) (body := kc3) (show OrcsOk (okOf os3) (evF tab (n + 20)) kc3 from ⟨trivial, ⟨trivial, ⟨⟨trivial, ⟨⟨trivial, ⟨trivial, trivial⟩⟩, trivial⟩⟩, ⟨trivial, ⟨trivial, trivial⟩⟩⟩⟩⟩) t3 (by kernel_rfl)
    (all_ins (Q := fun i sh => ∀ ls, fillA sh ls (fun args h => fnK (ckOf es3) (okOf os3) sf3 kc3 args h (findRes aout3 0) none) none = g3 (i, ls)) (l := ain3) ⟨fun ls => by kernel_rfl, trivial⟩)
/-! function 8 -/
def es8 : List (FuncId × Ent) := []
theorem ck8 (n : Nat) : CallKOk (ckOf es8) (evF tab (n + 0)) :=
  ckOf_nil
def kc8_0 : KC := (.seq (.seq (.seq (.reg r8_3) (.cond (.t 12) .skip (.seq (.kill [0, 2, 4, 12]) (.exit 0)))) (.seq (.block 1 (.reg r8_4)) (.reg r8_5))) (.kill [2, 12]))
def in8_0 : List SPat := [⟨[(0, (.slice 0 (.c 0) .h 1)), (2, .unk), (3, .nils), (4, (.int .i64)), (12, .unk)], [(false, (.ints .i64))], []⟩, ⟨[(0, .nils), (2, .unk), (3, .nils), (4, (.int .i64)), (12, .unk)], [], []⟩, ⟨[(0, (.slice 0 (.c 0) .h 1)), (2, .unk), (3, (.slice 1 (.c 0) .h 1)), (4, (.int .i64)), (12, .unk)], [(false, (.ints .i64)), (true, (.intsE .i64 1))], []⟩, ⟨[(0, (.slice 0 (.c 0) .h 1)), (2, .unk), (3, (.slice 1 (.c 0) .h 1)), (4, (.int .i64)), (12, .unk)], [(false, (.ints .i64)), (true, (.ints .i64))], [1]⟩]
def out8_0 : List (SX × SPat) := [((.exit 0), ⟨[(0, .unk), (2, .unk), (3, .nils), (4, .unk), (12, .unk)], [(false, (.ints .i64))], []⟩), ((.exit 0), ⟨[(0, .unk), (2, .unk), (3, .nils), (4, .unk), (12, .unk)], [], []⟩), ((.exit 0), ⟨[(0, .unk), (2, .unk), (3, (.slice 1 (.c 0) .h 1)), (4, .unk), (12, .unk)], [(false, (.ints .i64)), (true, (.intsE .i64 1))], []⟩), ((.exit 0), ⟨[(0, .unk), (2, .unk), (3, (.slice 1 (.c 0) .h 1)), (4, .unk), (12, .unk)], [(false, (.ints .i64)), (true, (.ints .i64))], [1]⟩)]
def f8_0_0 (t0n : Nat) (t4 : Int) (h0 : List Int) : Option (Nat × List Leaf) :=
  cond (Decidable.decide (t4 < (↑t0n : Int))) (cond (Decidable.decide (t4 < (200 : Int))) (if (0 : Int) ≤ t4 ∧ t4 < (↑t0n : Int) then optK (h0[Int.toNat t4]?) (fun x1 => some (2, [.n (t0n), .n ((1 : Nat)), .i (Go.IntKind.wrap Go.IntKind.i64 (t4 + (1 : Int))), .l (h0), .i (Int.tmod x1 (1048577 : Int))])) (none) else none) (some (4, [.l (h0)]))) (some (4, [.l (h0)]))
def f8_0_1 (t4 : Int) : Option (Nat × List Leaf) :=
  cond (Decidable.decide (t4 < (0 : Int))) (cond (Decidable.decide (t4 < (200 : Int))) (none) (some (5, []))) (some (5, []))
def f8_0_2 (t0n : Nat) (t3n : Nat) (t4 : Int) (h0 : List Int) (h1_0 : Int) : Option (Nat × List Leaf) :=
  cond (Decidable.decide (t4 < (↑t0n : Int))) (cond (Decidable.decide (t4 < (200 : Int))) (if (0 : Int) ≤ t4 ∧ t4 < (↑t0n : Int) then optK (h0[Int.toNat t4]?) (fun x1 => if (t3n + (1 : Nat)) * (8 : Nat) ≤ (70368744177664 : Nat) then if List.length [h1_0] = t3n * (1 : Nat) then some (3, [.n (t0n), .n (t3n + (1 : Nat)), .i (Go.IntKind.wrap Go.IntKind.i64 (t4 + (1 : Int))), .l (h0), .l ([h1_0, Int.tmod x1 (1048577 : Int)])]) else none else none) (none) else none) (some (6, [.n (t3n), .l (h0), .i (h1_0)]))) (some (6, [.n (t3n), .l (h0), .i (h1_0)]))
def f8_0_3 (t0n : Nat) (t3n : Nat) (t4 : Int) (h0 : List Int) (h1 : List Int) : Option (Nat × List Leaf) :=
  cond (Decidable.decide (t4 < (↑t0n : Int))) (cond (Decidable.decide (t4 < (200 : Int))) (if (0 : Int) ≤ t4 ∧ t4 < (↑t0n : Int) then optK (h0[Int.toNat t4]?) (fun x1 => if (t3n + (1 : Nat)) * (8 : Nat) ≤ (70368744177664 : Nat) then if List.length h1 = t3n * (1 : Nat) then some (3, [.n (t0n), .n (t3n + (1 : Nat)), .i (Go.IntKind.wrap Go.IntKind.i64 (t4 + (1 : Int))), .l (h0), .l (h1 ++ [Int.tmod x1 (1048577 : Int)])]) else none else none) (none) else none) (some (7, [.n (t3n), .l (h0), .l (h1)]))) (some (7, [.n (t3n), .l (h0), .l (h1)]))
def f8_0 (s : Nat × List Leaf) : Option (Nat × List Leaf) := match s.1 with
  | 0 => let r := s.2; asN r (fun t0n r => asI r (fun t4 r => asL r (fun h0 r => asE r (f8_0_0 t0n t4 h0) none) none) none) none
  | 1 => let r := s.2; asI r (fun t4 r => asE r (f8_0_1 t4) none) none
  | 2 => let r := s.2; asN r (fun t0n r => asN r (fun t3n r => asI r (fun t4 r => asL r (fun h0 r => asI r (fun h1_0 r => asE r (f8_0_2 t0n t3n t4 h0 h1_0) none) none) none) none) none) none
  | 3 => let r := s.2; asN r (fun t0n r => asN r (fun t3n r => asI r (fun t4 r => asL r (fun h0 r => asL r (fun h1 r => asE r (f8_0_3 t0n t3n t4 h0 h1) none) none) none) none) none) none
  | _ => none
def L8_0 (s : Nat × List Leaf) : Option (Nat × List Leaf) := loopL 4 f8_0 s
def orc8_0 : Orc := ⟨in8_0, out8_0, L8_0⟩
def os8_0 : List Orc := []
theorem snd8_0 (n : Nat) : OrcSound (evF tab (n + 0)) (.loop l8_6) orc8_0 :=
  loop_sound (b := kc8_0) (OK := okOf os8_0) (ck8 n) (show OrcsOk (okOf os8_0) (evF tab (n + 0)) kc8_0 from ⟨⟨⟨trivial, ⟨trivial, ⟨trivial, trivial⟩⟩⟩, ⟨trivial, trivial⟩⟩, trivial⟩) (ins := in8_0) (outs := out8_0) (f := f8_0) (by kernel_rfl)
    (all_ins (Q := fun i sh => ∀ ls, fillS sh ls (fun st => evK (ckOf es8) (okOf os8_0) kc8_0 st (findOut (in8_0.map (SX.normal, ·) ++ out8_0) 0) none) none = f8_0 (i, ls)) (l := in8_0) ⟨fun ls => by kernel_rfl, ⟨fun ls => by kernel_rfl, ⟨fun ls => by kernel_rfl, ⟨fun ls => by kernel_rfl, trivial⟩⟩⟩⟩)
def kc8 : KC := (.seq (.reg r8_0) (.seq (.reg r8_1) (.seq (.seq (.reg r8_2) (.block 0 (.seq (.kill [2, 12]) (.orc 0 (.loop l8_6))))) (.seq (.reg r8_7) (.seq (.kill [0, 3, 4, 12]) .ret)))))
def ain8 : List APat := [⟨[(.slice 0 (.c 0) .h 1)], [(false, (.ints .i64))]⟩, ⟨[.nils], []⟩]
def aout8 : List RPat := [⟨.nils, [(false, (.ints .i64))], []⟩, ⟨(.slice 1 (.c 0) .h 1), [(false, (.ints .i64)), (true, (.ints .i64))], []⟩, ⟨.nils, [], []⟩, ⟨(.slice 0 (.c 0) .h 1), [(true, (.ints .i64))], []⟩]
def g8_0 (a0n : Nat) (h0 : List Int) : Option (Nat × List Leaf) :=
  altK (L8_0 (0, [.n (a0n), .i ((0 : Int)), .l (h0)])) [fun r => asL r (fun x6h0 r => asE r (some (0, [.l (x6h0)])) none) none, fun r => asE r (none) none, fun r => asN r (fun x15n r => asL r (fun x18h0 r => asI r (fun x18h1_0 r => asE r (some (1, [.n (x15n), .l (x18h0), .l ([x18h1_0])])) none) none) none) none, fun r => asN r (fun x21n r => asL r (fun x24h0 r => asL r (fun x24h1 r => asE r (some (1, [.n (x21n), .l (x24h0), .l (x24h1)])) none) none) none) none] none
def g8_1  : Option (Nat × List Leaf) :=
  altK (L8_0 (1, [.i ((0 : Int))])) [fun r => asL r (fun x6h0 r => asE r (some (2, [])) none) none, fun r => asE r (some (2, [])) none, fun r => asN r (fun x15n r => asL r (fun x18h0 r => asI r (fun x18h1_0 r => asE r (some (3, [.n (x15n), .l ([x18h1_0])])) none) none) none) none, fun r => asN r (fun x21n r => asL r (fun x24h0 r => asL r (fun x24h1 r => asE r (some (3, [.n (x21n), .l (x24h1)])) none) none) none) none] none
def g8 (s : Nat × List Leaf) : Option (Nat × List Leaf) := match s.1 with
  | 0 => let r := s.2; asN r (fun a0n r => asL r (fun h0 r => asE r (g8_0 a0n h0) none) none) none
  | 1 => let r := s.2; asE r (g8_1) none
  | _ => none
def ent8 : Ent := ⟨ain8, aout8, g8⟩
def os8 : List Orc := [orc8_0]
theorem ok8 (n : Nat) : EntSound (evF tab (n + 1)) 8 ent8 :=
  fn_sound (n := n + 0) (ck8 n) (OK := okOf os8) (body := kc8) (show OrcsOk (okOf os8) (evF tab (n + 0)) kc8 from ⟨trivial, ⟨trivial, ⟨⟨trivial, ⟨trivial, (okOf_ok (os := os8) (i := 0) (o := orc8_0) rfl (snd8_0 n))⟩⟩, ⟨trivial, ⟨trivial, trivial⟩⟩⟩⟩⟩) t8 (by kernel_rfl)
    (all_ins (Q := fun i sh => ∀ ls, fillA sh ls (fun args h => fnK (ckOf es8) (okOf os8) sf8 kc8 args h (findRes aout8 0) none) none = g8 (i, ls)) (l := ain8) ⟨fun ls => by kernel_rfl, ⟨fun ls => by kernel_rfl, trivial⟩⟩)
end Go.Proofs.Ytjekhbenohnpnaa
