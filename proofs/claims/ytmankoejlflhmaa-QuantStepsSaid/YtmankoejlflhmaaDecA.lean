/-
  Functions of this seat as functions of leaves, by program, and that the abstract machine answers as they do. Conditions: none.
-/
import Derived.Test.YtmankoejlflhmaaTab
import Derived.Test.YtmankoejlflhmaaSxW
import Derived.KernelRfl
namespace Go.Proofs.Ytmankoejlflhmaa
open Go Go.Sx
set_option maxRecDepth 100000
set_option linter.unusedVariables false
/-! function 23 -/
def es23 : List (FuncId × Ent) := []
theorem ck23 (n : Nat) : CallKOk (ckOf es23) (evF tab (n + 0)) :=
  ckOf_nil
def kc23 : KC := (.seq (.reg r23_0) (.seq (.block 0 (.seq (.reg r23_1) (.cond (.t 3) (.seq (.reg r23_2) (.seq (.kill [0, 3, 6]) .ret)) (.seq (.reg r23_3) (.cond (.t 6) (.seq (.reg r23_4) (.seq (.kill [0, 3, 6]) .ret)) .skip))))) (.seq (.reg r23_5) (.seq (.kill [0, 3, 6]) .ret))))
def ain23 : List APat := [⟨[(.int .i64)], []⟩]
def aout23 : List RPat := [⟨(.int .i64), [], []⟩]
def g23_0 (a0 : Int) : Option (Nat × List Leaf) :=
  cond (Decidable.decide (a0 = (-9223372036854775808 : Int))) (some (0, [.i ((9223372036854775807 : Int))])) (cond (Decidable.decide (a0 < (0 : Int))) (some (0, [.i (Go.IntKind.wrap Go.IntKind.i64 ((0 : Int) - a0))])) (some (0, [.i (a0)])))
def g23 (s : Nat × List Leaf) : Option (Nat × List Leaf) := match s.1 with
  | 0 => let r := s.2; asI r (fun a0 r => asE r (g23_0 a0) none) none
  | _ => none
def ent23 : Ent := ⟨ain23, aout23, g23⟩
def os23 : List Orc := []
theorem ok23 (n : Nat) : EntSound (evF tab (n + 1)) 23 ent23 :=
  fn_sound (n := n + 0) (ck23 n) (OK := okOf os23) (body := kc23) (show OrcsOk (okOf os23) (evF tab (n + 0)) kc23 from ⟨trivial, ⟨⟨trivial, ⟨⟨trivial, ⟨trivial, trivial⟩⟩, ⟨trivial, ⟨⟨trivial, ⟨trivial, trivial⟩⟩, trivial⟩⟩⟩⟩, ⟨trivial, ⟨trivial, trivial⟩⟩⟩⟩) t23 (by kernel_rfl)
    (all_ins (Q := fun i sh => ∀ ls, fillA sh ls (fun args h => fnK (ckOf es23) (okOf os23) sf23 kc23 args h (findRes aout23 0) none) none = g23 (i, ls)) (l := ain23) ⟨fun ls => by kernel_rfl, trivial⟩)
/-! function 21 -/
def es21 : List (FuncId × Ent) := []
theorem ck21 (n : Nat) : CallKOk (ckOf es21) (evF tab (n + 0)) :=
  ckOf_nil
def kc21 : KC := (.seq (.reg r21_0) (.seq (.seq (.reg r21_1) (.cond (.t 12) (.seq (.reg r21_2) (.seq (.kill [0, 1, 5, 6, 12, 21, 24, 32]) .ret)) .skip)) (.seq (.reg r21_3) (.seq (.block 0 (.seq (.reg r21_4) (.cond (.t 21) .skip (.seq (.reg r21_5) (.cond (.t 24) (.reg r21_6) (.seq (.reg r21_7) (.cond (.t 32) (.reg r21_8) .skip))))))) (.seq (.reg r21_9) (.seq (.kill [0, 1, 5, 6, 12, 21, 24, 32]) .ret))))))
def ain21 : List APat := [⟨[(.int .i64), (.int .i64)], []⟩]
def aout21 : List RPat := [⟨(.int .i64), [], []⟩]
def g21_0 (a0 : Int) (a1 : Int) : Option (Nat × List Leaf) :=
  cond (Decidable.decide (a1 < (0 : Int))) (some (0, [.i ((0 : Int))])) (cond (Decidable.decide ((62 : Int) < a1)) (some (0, [.i ((0 : Int))])) (if a1 < (0 : Int) then none else if Go.Sx.shlI Go.IntKind.i64 (1 : Int) a1 = (0 : Int) then none else if a1 < (0 : Int) then none else if Go.Sx.shlI Go.IntKind.i64 (1 : Int) a1 = (0 : Int) then none else cond (Decidable.decide (a1 = (0 : Int))) (some (0, [.i (Go.IntKind.wrap Go.IntKind.i64 (Int.tdiv a0 (Go.Sx.shlI Go.IntKind.i64 (1 : Int) a1)))])) (if Go.IntKind.wrap Go.IntKind.i64 (a1 - (1 : Int)) < (0 : Int) then none else cond (Decidable.decide (Go.Sx.shlI Go.IntKind.i64 (1 : Int) (Go.IntKind.wrap Go.IntKind.i64 (a1 - (1 : Int))) ≤ Int.tmod a0 (Go.Sx.shlI Go.IntKind.i64 (1 : Int) a1))) (some (0, [.i (Go.IntKind.wrap Go.IntKind.i64 (Go.IntKind.wrap Go.IntKind.i64 (Int.tdiv a0 (Go.Sx.shlI Go.IntKind.i64 (1 : Int) a1)) + (1 : Int)))])) (if Go.IntKind.wrap Go.IntKind.i64 (a1 - (1 : Int)) < (0 : Int) then none else cond (Decidable.decide (Int.tmod a0 (Go.Sx.shlI Go.IntKind.i64 (1 : Int) a1) ≤ Go.Sx.shlI Go.IntKind.i64 (-1 : Int) (Go.IntKind.wrap Go.IntKind.i64 (a1 - (1 : Int))))) (some (0, [.i (Go.IntKind.wrap Go.IntKind.i64 (Go.IntKind.wrap Go.IntKind.i64 (Int.tdiv a0 (Go.Sx.shlI Go.IntKind.i64 (1 : Int) a1)) - (1 : Int)))])) (some (0, [.i (Go.IntKind.wrap Go.IntKind.i64 (Int.tdiv a0 (Go.Sx.shlI Go.IntKind.i64 (1 : Int) a1)))]))))))
def g21 (s : Nat × List Leaf) : Option (Nat × List Leaf) := match s.1 with
  | 0 => let r := s.2; asI r (fun a0 r => asI r (fun a1 r => asE r (g21_0 a0 a1) none) none) none
  | _ => none
def ent21 : Ent := ⟨ain21, aout21, g21⟩
def os21 : List Orc := []
theorem ok21 (n : Nat) : EntSound (evF tab (n + 1)) 21 ent21 :=
  fn_sound (n := n + 0) (ck21 n) (OK := okOf os21) (body := kc21) (show OrcsOk (okOf os21) (evF tab (n + 0)) kc21 from ⟨trivial, ⟨⟨trivial, ⟨⟨trivial, ⟨trivial, trivial⟩⟩, trivial⟩⟩, ⟨trivial, ⟨⟨trivial, ⟨trivial, ⟨trivial, ⟨trivial, ⟨trivial, ⟨trivial, trivial⟩⟩⟩⟩⟩⟩, ⟨trivial, ⟨trivial, trivial⟩⟩⟩⟩⟩⟩) t21 (by kernel_rfl)
    (all_ins (Q := fun i sh => ∀ ls, fillA sh ls (fun args h => fnK (ckOf es21) (okOf os21) sf21 kc21 args h (findRes aout21 0) none) none = g21 (i, ls)) (l := ain21) ⟨fun ls => by kernel_rfl, trivial⟩)
/-! function 16 -/
def es16 : List (FuncId × Ent) := []
theorem ck16 (n : Nat) : CallKOk (ckOf es16) (evF tab (n + 0)) :=
  ckOf_nil
def kc16_0 : KC := (.seq (.seq (.seq (.reg r16_6) (.cond (.t 11) .skip (.seq (.kill [0, 2, 5, 7, 11]) (.exit 0)))) (.seq (.block 1 (.reg r16_7)) (.reg r16_8))) (.kill [2, 5, 7, 11]))
def in16_0 : List SPat := [⟨[(0, (.int .i64)), (2, .unk), (3, (.int .i64)), (5, .unk), (7, .unk), (11, .unk)], [], [], 0⟩]
def out16_0 : List (SX × SPat) := [((.exit 0), ⟨[(0, .unk), (2, .unk), (3, (.int .i64)), (5, .unk), (7, .unk), (11, .unk)], [], [], 0⟩)]
def f16_0_0 (t0 : Int) (t3 : Int) : Option (Nat × List Leaf) :=
  cond (Decidable.decide ((0 : Int) < t0)) (some (0, [.i (Go.Sx.shrI Go.IntKind.i64 t0 (1 : Int)), .i (Go.IntKind.wrap Go.IntKind.i64 (t3 + (1 : Int)))])) (some (1, [.i (t3)]))
def f16_0 (s : Nat × List Leaf) : Option (Nat × List Leaf) := match s.1 with
  | 0 => let r := s.2; asI r (fun t0 r => asI r (fun t3 r => asE r (f16_0_0 t0 t3) none) none) none
  | _ => none
def L16_0 (s : Nat × List Leaf) : Option (Nat × List Leaf) := loopL 1 f16_0 s
def orc16_0 : Orc := ⟨in16_0, out16_0, L16_0⟩
def os16_0 : List Orc := []
theorem snd16_0 (n : Nat) : OrcSound (evF tab (n + 0)) (.loop l16_9) orc16_0 :=
  loop_sound (b := kc16_0) (OK := okOf os16_0) (ck16 n) (show OrcsOk (okOf os16_0) (evF tab (n + 0)) kc16_0 from ⟨⟨⟨trivial, ⟨trivial, ⟨trivial, trivial⟩⟩⟩, ⟨trivial, trivial⟩⟩, trivial⟩) (ins := in16_0) (outs := out16_0) (f := f16_0) (by kernel_rfl)
    (all_ins (Q := fun i sh => ∀ ls, fillS sh ls (fun st => evK (ckOf es16) (okOf os16_0) kc16_0 st (findOut (in16_0.map (SX.normal, ·) ++ out16_0) 0) none) none = f16_0 (i, ls)) (l := in16_0) ⟨fun ls => by kernel_rfl, trivial⟩)
def kc16 : KC := (.seq (.reg r16_0) (.seq (.seq (.reg r16_1) (.cond (.t 5) (.seq (.reg r16_2) (.seq (.kill [0, 3, 5, 7, 11]) .ret)) .skip)) (.seq (.seq (.reg r16_3) (.cond (.t 7) (.reg r16_4) .skip)) (.seq (.reg r16_5) (.seq (.block 0 (.seq (.kill [2, 5, 7, 11]) (.orc 0 (.loop l16_9)))) (.seq (.reg r16_10) (.seq (.kill [0, 3, 5, 7, 11]) .ret)))))))
def ain16 : List APat := [⟨[(.int .i64)], []⟩]
def aout16 : List RPat := [⟨(.int .i64), [], []⟩]
def g16_0 (a0 : Int) : Option (Nat × List Leaf) :=
  cond (Decidable.decide (a0 = (0 : Int))) (some (0, [.i ((0 : Int))])) (cond (Decidable.decide (a0 < (0 : Int))) (altK (L16_0 (0, [.i (Go.Sx.bXor Go.IntKind.i64 (-1 : Int) a0), .i ((1 : Int))])) [fun r => asI r (fun x10 r => asE r (some (0, [.i (x10)])) none) none] none) (altK (L16_0 (0, [.i (a0), .i ((1 : Int))])) [fun r => asI r (fun x3 r => asE r (some (0, [.i (x3)])) none) none] none))
def g16 (s : Nat × List Leaf) : Option (Nat × List Leaf) := match s.1 with
  | 0 => let r := s.2; asI r (fun a0 r => asE r (g16_0 a0) none) none
  | _ => none
def ent16 : Ent := ⟨ain16, aout16, g16⟩
def os16 : List Orc := [orc16_0]
theorem ok16 (n : Nat) : EntSound (evF tab (n + 1)) 16 ent16 :=
  fn_sound (n := n + 0) (ck16 n) (OK := okOf os16) (body := kc16) (show OrcsOk (okOf os16) (evF tab (n + 0)) kc16 from ⟨trivial, ⟨⟨trivial, ⟨⟨trivial, ⟨trivial, trivial⟩⟩, trivial⟩⟩, ⟨⟨trivial, ⟨trivial, trivial⟩⟩, ⟨trivial, ⟨⟨trivial, (okOf_ok (os := os16) (i := 0) (o := orc16_0) rfl (snd16_0 n))⟩, ⟨trivial, ⟨trivial, trivial⟩⟩⟩⟩⟩⟩⟩) t16 (by kernel_rfl)
    (all_ins (Q := fun i sh => ∀ ls, fillA sh ls (fun args h => fnK (ckOf es16) (okOf os16) sf16 kc16 args h (findRes aout16 0) none) none = g16 (i, ls)) (l := ain16) ⟨fun ls => by kernel_rfl, trivial⟩)
/-! function 22 -/
def es22 : List (FuncId × Ent) := [(23, ent23)]
theorem ck22 (n : Nat) : CallKOk (ckOf es22) (evF tab (n + 1)) :=
  ckOf_cons (ok23 (n + 0)) (ckOf_nil)
def kc22_0 : KC := (.seq (.seq (.reg r22_3) (.seq (.cond (.t 9) .skip (.seq (.kill [0, 2, 5, 6, 7, 8, 9]) (.exit 0))) (.seq (.block 1 (.seq (.reg r22_4) (.reg r22_5))) (.reg r22_6)))) (.kill [0, 2, 5, 9]))
def in22_0 : List SPat := [⟨[(0, .unk), (2, .unk), (3, (.int .i64)), (5, .unk), (6, (.slice 0 (.c 0) .h 1)), (7, (.int .i64)), (8, (.int .i64)), (9, .unk)], [(true, (.ints .i64))], [], 1⟩]
def out22_0 : List (SX × SPat) := [((.exit 0), ⟨[(0, .unk), (2, .unk), (3, (.int .i64)), (5, .unk), (6, .unk), (7, .unk), (8, .unk), (9, .unk)], [(true, (.ints .i64))], [], 1⟩)]
def f22_0_0 (t3 : Int) (t6n : Nat) (t7 : Int) (t8 : Int) (h0 : List Int) : Option (Nat × List Leaf) :=
  cond (Decidable.decide (t8 < t7)) (if (0 : Int) ≤ t8 ∧ t8 < (↑t6n : Int) then optK (h0[Int.toNat t8]?) (fun x1 => altK (g23 (0, [.i (x1)])) [fun r => asI r (fun x2 r => asE r (some (0, [.i (if x2 > t3 then x2 else t3), .n (t6n), .i (t7), .i (Go.IntKind.wrap Go.IntKind.i64 (t8 + (1 : Int))), .l (h0)])) none) none] none) (none) else none) (some (1, [.i (t3), .l (h0)]))
def f22_0 (s : Nat × List Leaf) : Option (Nat × List Leaf) := match s.1 with
  | 0 => let r := s.2; asI r (fun t3 r => asN r (fun t6n r => asI r (fun t7 r => asI r (fun t8 r => asL r (fun h0 r => asE r (f22_0_0 t3 t6n t7 t8 h0) none) none) none) none) none) none
  | _ => none
def L22_0 (s : Nat × List Leaf) : Option (Nat × List Leaf) := loopL 1 f22_0 s
def orc22_0 : Orc := ⟨in22_0, out22_0, L22_0⟩
def os22_0 : List Orc := []
theorem snd22_0 (n : Nat) : OrcSound (evF tab (n + 1)) (.loop l22_7) orc22_0 :=
  loop_sound (b := kc22_0) (OK := okOf os22_0) (ck22 n) (show OrcsOk (okOf os22_0) (evF tab (n + 1)) kc22_0 from ⟨⟨trivial, ⟨⟨trivial, ⟨trivial, trivial⟩⟩, ⟨⟨trivial, trivial⟩, trivial⟩⟩⟩, trivial⟩) (ins := in22_0) (outs := out22_0) (f := f22_0) (by kernel_rfl)
    (all_ins (Q := fun i sh => ∀ ls, fillS sh ls (fun st => evK (ckOf es22) (okOf os22_0) kc22_0 st (findOut (in22_0.map (SX.normal, ·) ++ out22_0) 0) none) none = f22_0 (i, ls)) (l := in22_0) ⟨fun ls => by kernel_rfl, trivial⟩)
def kc22 : KC := (.seq (.reg r22_0) (.seq (.reg r22_1) (.seq (.seq (.reg r22_2) (.block 0 (.seq (.kill [0, 2, 5, 9]) (.orc 0 (.loop l22_7))))) (.seq (.reg r22_8) (.seq (.kill [0, 3, 5, 6, 7, 8, 9]) .ret)))))
def ain22 : List APat := [⟨[(.slice 0 (.c 0) .h 1)], [(true, (.ints .i64))]⟩]
def aout22 : List RPat := [⟨(.int .i64), [(true, (.ints .i64))], []⟩]
def g22_0 (a0n : Nat) (h0 : List Int) : Option (Nat × List Leaf) :=
  altK (L22_0 (0, [.i ((0 : Int)), .n (a0n), .i ((↑a0n : Int)), .i ((0 : Int)), .l (h0)])) [fun r => asI r (fun x3 r => asL r (fun x9h0 r => asE r (some (0, [.i (x3), .l (x9h0)])) none) none) none] none
def g22 (s : Nat × List Leaf) : Option (Nat × List Leaf) := match s.1 with
  | 0 => let r := s.2; asN r (fun a0n r => asL r (fun h0 r => asE r (g22_0 a0n h0) none) none) none
  | _ => none
def ent22 : Ent := ⟨ain22, aout22, g22⟩
def os22 : List Orc := [orc22_0]
theorem ok22 (n : Nat) : EntSound (evF tab (n + 2)) 22 ent22 :=
  fn_sound (n := n + 1) (ck22 n) (OK := okOf os22) (body := kc22) (show OrcsOk (okOf os22) (evF tab (n + 1)) kc22 from ⟨trivial, ⟨trivial, ⟨⟨trivial, ⟨trivial, (okOf_ok (os := os22) (i := 0) (o := orc22_0) rfl (snd22_0 n))⟩⟩, ⟨trivial, ⟨trivial, trivial⟩⟩⟩⟩⟩) t22 (by kernel_rfl)
    (all_ins (Q := fun i sh => ∀ ls, fillA sh ls (fun args h => fnK (ckOf es22) (okOf os22) sf22 kc22 args h (findRes aout22 0) none) none = g22 (i, ls)) (l := ain22) ⟨fun ls => by kernel_rfl, trivial⟩)
/-! function 18 -/
def es18 : List (FuncId × Ent) := []
theorem ck18 (n : Nat) : CallKOk (ckOf es18) (evF tab (n + 0)) :=
  ckOf_nil
def kc18 : KC := (.seq (.reg r18_0) (.seq (.seq (.reg r18_1) (.cond (.t 8) (.seq (.reg r18_2) (.seq (.kill [0, 8]) .ret)) .skip)) (.seq (.reg r18_3) (.seq (.kill [0, 8]) .ret))))
def ain18 : List APat := [⟨[(.int .i64)], []⟩]
def aout18 : List RPat := [⟨(.int .i64), [], []⟩]
def g18_0 (a0 : Int) : Option (Nat × List Leaf) :=
  cond (Decidable.decide (a0 < (0 : Int))) (some (0, [.i ((0 : Int))])) (cond (Decidable.decide ((16 : Int) ≤ a0)) (some (0, [.i ((0 : Int))])) (some (0, [.i (Go.IntKind.wrap Go.IntKind.i64 (Int.tdiv a0 (4 : Int)))])))
def g18 (s : Nat × List Leaf) : Option (Nat × List Leaf) := match s.1 with
  | 0 => let r := s.2; asI r (fun a0 r => asE r (g18_0 a0) none) none
  | _ => none
def ent18 : Ent := ⟨ain18, aout18, g18⟩
def os18 : List Orc := []
theorem ok18 (n : Nat) : EntSound (evF tab (n + 1)) 18 ent18 :=
  fn_sound (n := n + 0) (ck18 n) (OK := okOf os18) (body := kc18) (show OrcsOk (okOf os18) (evF tab (n + 0)) kc18 from ⟨trivial, ⟨⟨trivial, ⟨⟨trivial, ⟨trivial, trivial⟩⟩, trivial⟩⟩, ⟨trivial, ⟨trivial, trivial⟩⟩⟩⟩) t18 (by kernel_rfl)
    (all_ins (Q := fun i sh => ∀ ls, fillA sh ls (fun args h => fnK (ckOf es18) (okOf os18) sf18 kc18 args h (findRes aout18 0) none) none = g18 (i, ls)) (l := ain18) ⟨fun ls => by kernel_rfl, trivial⟩)
/-! function 20 -/
def es20 : List (FuncId × Ent) := []
theorem ck20 (n : Nat) : CallKOk (ckOf es20) (evF tab (n + 0)) :=
  ckOf_nil
def kc20 : KC := (.seq (.reg r20_0) (.seq (.seq (.reg r20_1) (.cond (.t 8) (.seq (.reg r20_2) (.seq (.kill [0, 8]) .ret)) .skip)) (.seq (.reg r20_3) (.seq (.kill [0, 8]) .ret))))
def ain20 : List APat := [⟨[(.int .i64)], []⟩]
def aout20 : List RPat := [⟨(.int .i64), [], []⟩]
def g20_0 (a0 : Int) : Option (Nat × List Leaf) :=
  cond (Decidable.decide (a0 < (0 : Int))) (some (0, [.i ((0 : Int))])) (cond (Decidable.decide ((23 : Int) < a0)) (some (0, [.i ((0 : Int))])) (if a0 < (0 : Int) then none else some (0, [.i (Go.Sx.shlI Go.IntKind.i64 (1 : Int) a0)])))
def g20 (s : Nat × List Leaf) : Option (Nat × List Leaf) := match s.1 with
  | 0 => let r := s.2; asI r (fun a0 r => asE r (g20_0 a0) none) none
  | _ => none
def ent20 : Ent := ⟨ain20, aout20, g20⟩
def os20 : List Orc := []
theorem ok20 (n : Nat) : EntSound (evF tab (n + 1)) 20 ent20 :=
  fn_sound (n := n + 0) (ck20 n) (OK := okOf os20) (body := kc20) (show OrcsOk (okOf os20) (evF tab (n + 0)) kc20 from ⟨trivial, ⟨⟨trivial, ⟨⟨trivial, ⟨trivial, trivial⟩⟩, trivial⟩⟩, ⟨trivial, ⟨trivial, trivial⟩⟩⟩⟩) t20 (by kernel_rfl)
    (all_ins (Q := fun i sh => ∀ ls, fillA sh ls (fun args h => fnK (ckOf es20) (okOf os20) sf20 kc20 args h (findRes aout20 0) none) none = g20 (i, ls)) (l := ain20) ⟨fun ls => by kernel_rfl, trivial⟩)
/-! function 14 -/
def es14 : List (FuncId × Ent) := [(20, ent20)]
theorem ck14 (n : Nat) : CallKOk (ckOf es14) (evF tab (n + 1)) :=
  ckOf_cons (ok20 (n + 0)) (ckOf_nil)
def kc14 : KC := (.seq (.reg r14_0) (.seq (.seq (.reg r14_1) (.cond (.t 4) (.seq (.reg r14_2) (.seq (.kill [0, 4]) .ret)) .skip)) (.seq (.reg r14_3) (.seq (.kill [0, 4]) .ret))))
def ain14 : List APat := [⟨[(.int .i64)], []⟩]
def aout14 : List RPat := [⟨(.int .i64), [], []⟩]
def g14_0 (a0 : Int) : Option (Nat × List Leaf) :=
  cond (Decidable.decide (a0 ≤ (0 : Int))) (some (0, [.i ((0 : Int))])) (altK (g20 (0, [.i (a0)])) [fun r => asI r (fun x1 r => asE r (some (0, [.i (Go.IntKind.wrap Go.IntKind.i64 (Int.tdiv x1 (2 : Int)))])) none) none] none)
def g14 (s : Nat × List Leaf) : Option (Nat × List Leaf) := match s.1 with
  | 0 => let r := s.2; asI r (fun a0 r => asE r (g14_0 a0) none) none
  | _ => none
def ent14 : Ent := ⟨ain14, aout14, g14⟩
def os14 : List Orc := []
theorem ok14 (n : Nat) : EntSound (evF tab (n + 2)) 14 ent14 :=
  fn_sound (n := n + 1) (ck14 n) (OK := okOf os14) (body := kc14) (show OrcsOk (okOf os14) (evF tab (n + 1)) kc14 from ⟨trivial, ⟨⟨trivial, ⟨⟨trivial, ⟨trivial, trivial⟩⟩, trivial⟩⟩, ⟨trivial, ⟨trivial, trivial⟩⟩⟩⟩) t14 (by kernel_rfl)
    (all_ins (Q := fun i sh => ∀ ls, fillA sh ls (fun args h => fnK (ckOf es14) (okOf os14) sf14 kc14 args h (findRes aout14 0) none) none = g14 (i, ls)) (l := ain14) ⟨fun ls => by kernel_rfl, trivial⟩)
/-! function 12 -/
def es12 : List (FuncId × Ent) := []
theorem ck12 (n : Nat) : CallKOk (ckOf es12) (evF tab (n + 0)) :=
  ckOf_nil
def kc12_0 : KC := (.seq (.seq (.reg r12_2) (.seq (.cond (.t 7) .skip (.seq (.kill [0, 1, 2, 4, 5, 6, 7, 14]) (.exit 0))) (.seq (.block 1 (.seq (.reg r12_3) (.seq (.reg r12_4) (.cond (.t 14) (.seq (.reg r12_5) (.seq (.kill [0, 1, 4, 5, 6, 7, 14]) .ret)) .skip)))) (.reg r12_6)))) (.kill [0, 1, 2, 4, 7, 14]))
def in12_0 : List SPat := [⟨[(0, .unk), (1, .unk), (2, .unk), (4, .unk), (5, (.ints .i64)), (6, (.int .i64)), (7, .unk), (14, .unk)], [(true, (.ints .i64))], [], 0⟩]
def out12_0 : List (SX × SPat) := [((.exit 0), ⟨[(0, .unk), (1, .unk), (2, .unk), (4, .unk), (5, .unk), (6, .unk), (7, .unk), (14, .unk)], [(true, (.ints .i64))], [], 0⟩), (.ret, ⟨[(0, .unk), (1, .unk), (2, (.cbool false)), (4, .unk), (5, .unk), (6, .unk), (7, .unk), (14, .unk)], [(true, (.ints .i64))], [], 0⟩)]
def f12_0_0 (t5 : List Int) (t6 : Int) (h0 : List Int) : Option (Nat × List Leaf) :=
  cond (Decidable.decide (t6 < (4 : Int))) (if (0 : Int) ≤ t6 ∧ t6 < (4 : Int) then optK (t5[Int.toNat t6]?) (fun x1 => cond (Decidable.decide (x1 < (0 : Int))) (some (2, [.l (h0)])) (cond (Decidable.decide ((23 : Int) < x1)) (some (2, [.l (h0)])) (some (0, [.l (t5), .i (Go.IntKind.wrap Go.IntKind.i64 (t6 + (1 : Int))), .l (h0)])))) (none) else none) (some (1, [.l (h0)]))
def f12_0 (s : Nat × List Leaf) : Option (Nat × List Leaf) := match s.1 with
  | 0 => let r := s.2; asL r (fun t5 r => asI r (fun t6 r => asL r (fun h0 r => asE r (f12_0_0 t5 t6 h0) none) none) none) none
  | _ => none
def L12_0 (s : Nat × List Leaf) : Option (Nat × List Leaf) := loopL 1 f12_0 s
def orc12_0 : Orc := ⟨in12_0, out12_0, L12_0⟩
def os12_0 : List Orc := []
theorem snd12_0 (n : Nat) : OrcSound (evF tab (n + 0)) (.loop l12_7) orc12_0 :=
  loop_sound (b := kc12_0) (OK := okOf os12_0) (ck12 n) (show OrcsOk (okOf os12_0) (evF tab (n + 0)) kc12_0 from ⟨⟨trivial, ⟨⟨trivial, ⟨trivial, trivial⟩⟩, ⟨⟨trivial, ⟨trivial, ⟨⟨trivial, ⟨trivial, trivial⟩⟩, trivial⟩⟩⟩, trivial⟩⟩⟩, trivial⟩) (ins := in12_0) (outs := out12_0) (f := f12_0) (by kernel_rfl)
    (all_ins (Q := fun i sh => ∀ ls, fillS sh ls (fun st => evK (ckOf es12) (okOf os12_0) kc12_0 st (findOut (in12_0.map (SX.normal, ·) ++ out12_0) 0) none) none = f12_0 (i, ls)) (l := in12_0) ⟨fun ls => by kernel_rfl, trivial⟩)
def kc12 : KC := (.seq (.reg r12_0) (.seq (.seq (.reg r12_1) (.block 0 (.seq (.kill [0, 1, 2, 4, 7, 14]) (.orc 0 (.loop l12_7))))) (.seq (.reg r12_8) (.seq (.kill [0, 1, 4, 5, 6, 7, 14]) .ret))))
def ain12 : List APat := [⟨[(.ints .i64)], []⟩]
def aout12 : List RPat := [⟨.bool, [], []⟩]
def g12_0 (a0 : List Int) : Option (Nat × List Leaf) :=
  if (4 : Nat) ≤ List.length a0 then altK (L12_0 (0, [.l (List.take (4 : Nat) a0), .i ((0 : Int)), .l (a0)])) [fun r => asL r (fun x9h0 r => asE r (some (0, [.b (Bool.true)])) none) none, fun r => asL r (fun x18h0 r => asE r (some (0, [.b (Bool.false)])) none) none] none else none
def g12 (s : Nat × List Leaf) : Option (Nat × List Leaf) := match s.1 with
  | 0 => let r := s.2; asL r (fun a0 r => asE r (g12_0 a0) none) none
  | _ => none
def ent12 : Ent := ⟨ain12, aout12, g12⟩
def os12 : List Orc := [orc12_0]
theorem ok12 (n : Nat) : EntSound (evF tab (n + 1)) 12 ent12 :=
  fn_sound (n := n + 0) (ck12 n) (OK := okOf os12) (body := kc12) (show OrcsOk (okOf os12) (evF tab (n + 0)) kc12 from ⟨trivial, ⟨⟨trivial, ⟨trivial, (okOf_ok (os := os12) (i := 0) (o := orc12_0) rfl (snd12_0 n))⟩⟩, ⟨trivial, ⟨trivial, trivial⟩⟩⟩⟩) t12 (by kernel_rfl)
    (all_ins (Q := fun i sh => ∀ ls, fillA sh ls (fun args h => fnK (ckOf es12) (okOf os12) sf12 kc12 args h (findRes aout12 0) none) none = g12 (i, ls)) (l := ain12) ⟨fun ls => by kernel_rfl, trivial⟩)
/-! function 11 -/
def es11 : List (FuncId × Ent) := [(12, ent12), (18, ent18), (21, ent21)]
theorem ck11 (n : Nat) : CallKOk (ckOf es11) (evF tab (n + 1)) :=
  ckOf_cons (ok12 (n + 0)) (ckOf_cons (ok18 (n + 0)) (ckOf_cons (ok21 (n + 0)) (ckOf_nil)))
def kc11_0 : KC := (.seq (.seq (.reg r11_4) (.seq (.cond (.t 11) .skip (.seq (.kill [0, 1, 3, 5, 8, 10, 11]) (.exit 0))) (.seq (.block 1 (.seq (.reg r11_5) (.reg r11_6))) (.reg r11_7)))) (.kill [0, 1, 5, 8, 11]))
def in11_0 : List SPat := [⟨[(0, .unk), (1, .unk), (2, (.ptr 0 (.c 0))), (3, (.ptr 1 (.c 0))), (4, (.ptr 2 (.c 0))), (5, .unk), (8, .unk), (10, (.int .i64)), (11, .unk)], [(true, (.ints .i64)), (true, (.ints .i64)), (true, (.ints .i64))], [], 0⟩]
def out11_0 : List (SX × SPat) := [((.exit 0), ⟨[(0, .unk), (1, .unk), (2, (.ptr 0 (.c 0))), (3, .unk), (4, (.ptr 2 (.c 0))), (5, .unk), (8, .unk), (10, .unk), (11, .unk)], [(true, (.ints .i64)), (true, (.ints .i64)), (true, (.ints .i64))], [], 0⟩)]
def f11_0_0 (t10 : Int) (h0 : List Int) (h1 : List Int) (h2 : List Int) : Option (Nat × List Leaf) :=
  cond (Decidable.decide (t10 < (16 : Int))) (if (0 : Int) ≤ t10 ∧ t10 < (16 : Int) then optK (h0[Int.toNat t10]?) (fun x1 => altK (g18 (0, [.i (t10)])) [fun r => asI r (fun x2 r => asE r (if (0 : Int) ≤ x2 ∧ x2 < (4 : Int) then optK (h1[Int.toNat x2]?) (fun x3 => altK (g21 (0, [.i (x1), .i (x3)])) [fun r => asI r (fun x4 r => asE r (if (0 : Int) ≤ t10 ∧ t10 < (16 : Int) then if Int.toNat t10 < List.length h0 then some (0, [.i (Go.IntKind.wrap Go.IntKind.i64 (t10 + (1 : Int))), .l (List.set h0 (Int.toNat t10) x4), .l (h1), .l (h2)]) else none else none) none) none] none) (none) else none) none) none] none) (none) else none) (some (1, [.l (h0), .l (h1), .l (h2)]))
def f11_0 (s : Nat × List Leaf) : Option (Nat × List Leaf) := match s.1 with
  | 0 => let r := s.2; asI r (fun t10 r => asL r (fun h0 r => asL r (fun h1 r => asL r (fun h2 r => asE r (f11_0_0 t10 h0 h1 h2) none) none) none) none) none
  | _ => none
def L11_0 (s : Nat × List Leaf) : Option (Nat × List Leaf) := loopL 1 f11_0 s
def orc11_0 : Orc := ⟨in11_0, out11_0, L11_0⟩
def os11_0 : List Orc := []
theorem snd11_0 (n : Nat) : OrcSound (evF tab (n + 1)) (.loop l11_8) orc11_0 :=
  loop_sound (b := kc11_0) (OK := okOf os11_0) (ck11 n) (show OrcsOk (okOf os11_0) (evF tab (n + 1)) kc11_0 from ⟨⟨trivial, ⟨⟨trivial, ⟨trivial, trivial⟩⟩, ⟨⟨trivial, trivial⟩, trivial⟩⟩⟩, trivial⟩) (ins := in11_0) (outs := out11_0) (f := f11_0) (by kernel_rfl)
    (all_ins (Q := fun i sh => ∀ ls, fillS sh ls (fun st => evK (ckOf es11) (okOf os11_0) kc11_0 st (findOut (in11_0.map (SX.normal, ·) ++ out11_0) 0) none) none = f11_0 (i, ls)) (l := in11_0) ⟨fun ls => by kernel_rfl, trivial⟩)
def kc11 : KC := (.seq (.reg r11_0) (.seq (.seq (.reg r11_1) (.cond (.t 8) (.seq (.reg r11_2) (.seq (.kill [0, 1, 2, 3, 5, 8, 10, 11]) .ret)) .skip)) (.seq (.seq (.reg r11_3) (.block 0 (.seq (.kill [0, 1, 5, 8, 11]) (.orc 0 (.loop l11_8))))) (.seq (.reg r11_9) (.seq (.kill [0, 1, 2, 3, 5, 8, 10, 11]) .ret)))))
def ain11 : List APat := [⟨[(.ints .i64), (.ints .i64)], []⟩]
def aout11 : List RPat := [⟨(.ints .i64), [], []⟩]
def g11_0 (a0 : List Int) (a1 : List Int) : Option (Nat × List Leaf) :=
  if (4 : Nat) ≤ List.length a1 then altK (g12 (0, [.l (List.take (4 : Nat) a1)])) [fun r => asB r (fun x1 r => asE r (cond (!x1) (some (0, [.l ([(0 : Int), (0 : Int), (0 : Int), (0 : Int), (0 : Int), (0 : Int), (0 : Int), (0 : Int), (0 : Int), (0 : Int), (0 : Int), (0 : Int), (0 : Int), (0 : Int), (0 : Int), (0 : Int)])])) (altK (L11_0 (0, [.i ((0 : Int)), .l (a0), .l (a1), .l ([(0 : Int), (0 : Int), (0 : Int), (0 : Int), (0 : Int), (0 : Int), (0 : Int), (0 : Int), (0 : Int), (0 : Int), (0 : Int), (0 : Int), (0 : Int), (0 : Int), (0 : Int), (0 : Int)])])) [fun r => asL r (fun x11h0 r => asL r (fun x11h1 r => asL r (fun x11h2 r => asE r (if (16 : Nat) ≤ List.length x11h0 then if List.length (List.take (16 : Nat) x11h0) = (16 : Nat) then if (0 : Nat) + List.length (List.take (16 : Nat) x11h0) ≤ List.length x11h2 then if (16 : Nat) ≤ List.length (List.take (16 : Nat) x11h0 ++ List.drop ((0 : Nat) + List.length (List.take (16 : Nat) x11h0)) x11h2) then some (0, [.l (List.take (16 : Nat) (List.take (16 : Nat) x11h0 ++ List.drop ((0 : Nat) + List.length (List.take (16 : Nat) x11h0)) x11h2))]) else none else none else none else none) none) none) none) none] none)) none) none] none else none
def g11 (s : Nat × List Leaf) : Option (Nat × List Leaf) := match s.1 with
  | 0 => let r := s.2; asL r (fun a0 r => asL r (fun a1 r => asE r (g11_0 a0 a1) none) none) none
  | _ => none
def ent11 : Ent := ⟨ain11, aout11, g11⟩
def os11 : List Orc := [orc11_0]
theorem ok11 (n : Nat) : EntSound (evF tab (n + 2)) 11 ent11 :=
  fn_sound (n := n + 1) (ck11 n) (OK := okOf os11) (body := kc11) (show OrcsOk (okOf os11) (evF tab (n + 1)) kc11 from ⟨trivial, ⟨⟨trivial, ⟨⟨trivial, ⟨trivial, trivial⟩⟩, trivial⟩⟩, ⟨⟨trivial, ⟨trivial, (okOf_ok (os := os11) (i := 0) (o := orc11_0) rfl (snd11_0 n))⟩⟩, ⟨trivial, ⟨trivial, trivial⟩⟩⟩⟩⟩) t11 (by kernel_rfl)
    (all_ins (Q := fun i sh => ∀ ls, fillA sh ls (fun args h => fnK (ckOf es11) (okOf os11) sf11 kc11 args h (findRes aout11 0) none) none = g11 (i, ls)) (l := ain11) ⟨fun ls => by kernel_rfl, trivial⟩)
/-! function 8 -/
def es8 : List (FuncId × Ent) := [(12, ent12), (18, ent18), (20, ent20)]
theorem ck8 (n : Nat) : CallKOk (ckOf es8) (evF tab (n + 1)) :=
  ckOf_cons (ok12 (n + 0)) (ckOf_cons (ok18 (n + 0)) (ckOf_cons (ok20 (n + 0)) (ckOf_nil)))
def kc8_0 : KC := (.seq (.seq (.reg r8_4) (.seq (.cond (.t 11) .skip (.seq (.kill [0, 1, 3, 5, 8, 10, 11]) (.exit 0))) (.seq (.block 1 (.seq (.reg r8_5) (.reg r8_6))) (.reg r8_7)))) (.kill [0, 1, 5, 8, 11]))
def in8_0 : List SPat := [⟨[(0, .unk), (1, .unk), (2, (.ptr 0 (.c 0))), (3, (.ptr 1 (.c 0))), (4, (.ptr 2 (.c 0))), (5, .unk), (8, .unk), (10, (.int .i64)), (11, .unk)], [(true, (.ints .i64)), (true, (.ints .i64)), (true, (.ints .i64))], [], 0⟩]
def out8_0 : List (SX × SPat) := [((.exit 0), ⟨[(0, .unk), (1, .unk), (2, (.ptr 0 (.c 0))), (3, .unk), (4, (.ptr 2 (.c 0))), (5, .unk), (8, .unk), (10, .unk), (11, .unk)], [(true, (.ints .i64)), (true, (.ints .i64)), (true, (.ints .i64))], [], 0⟩)]
def f8_0_0 (t10 : Int) (h0 : List Int) (h1 : List Int) (h2 : List Int) : Option (Nat × List Leaf) :=
  cond (Decidable.decide (t10 < (16 : Int))) (if (0 : Int) ≤ t10 ∧ t10 < (16 : Int) then optK (h0[Int.toNat t10]?) (fun x1 => altK (g18 (0, [.i (t10)])) [fun r => asI r (fun x2 r => asE r (if (0 : Int) ≤ x2 ∧ x2 < (4 : Int) then optK (h1[Int.toNat x2]?) (fun x3 => altK (g20 (0, [.i (x3)])) [fun r => asI r (fun x4 r => asE r (if (0 : Int) ≤ t10 ∧ t10 < (16 : Int) then if Int.toNat t10 < List.length h0 then some (0, [.i (Go.IntKind.wrap Go.IntKind.i64 (t10 + (1 : Int))), .l (List.set h0 (Int.toNat t10) (Go.IntKind.wrap Go.IntKind.i64 (x1 * x4))), .l (h1), .l (h2)]) else none else none) none) none] none) (none) else none) none) none] none) (none) else none) (some (1, [.l (h0), .l (h1), .l (h2)]))
def f8_0 (s : Nat × List Leaf) : Option (Nat × List Leaf) := match s.1 with
  | 0 => let r := s.2; asI r (fun t10 r => asL r (fun h0 r => asL r (fun h1 r => asL r (fun h2 r => asE r (f8_0_0 t10 h0 h1 h2) none) none) none) none) none
  | _ => none
def L8_0 (s : Nat × List Leaf) : Option (Nat × List Leaf) := loopL 1 f8_0 s
def orc8_0 : Orc := ⟨in8_0, out8_0, L8_0⟩
def os8_0 : List Orc := []
theorem snd8_0 (n : Nat) : OrcSound (evF tab (n + 1)) (.loop l8_8) orc8_0 :=
  loop_sound (b := kc8_0) (OK := okOf os8_0) (ck8 n) (show OrcsOk (okOf os8_0) (evF tab (n + 1)) kc8_0 from ⟨⟨trivial, ⟨⟨trivial, ⟨trivial, trivial⟩⟩, ⟨⟨trivial, trivial⟩, trivial⟩⟩⟩, trivial⟩) (ins := in8_0) (outs := out8_0) (f := f8_0) (by kernel_rfl)
    (all_ins (Q := fun i sh => ∀ ls, fillS sh ls (fun st => evK (ckOf es8) (okOf os8_0) kc8_0 st (findOut (in8_0.map (SX.normal, ·) ++ out8_0) 0) none) none = f8_0 (i, ls)) (l := in8_0) ⟨fun ls => by kernel_rfl, trivial⟩)
def kc8 : KC := (.seq (.reg r8_0) (.seq (.seq (.reg r8_1) (.cond (.t 8) (.seq (.reg r8_2) (.seq (.kill [0, 1, 2, 3, 5, 8, 10, 11]) .ret)) .skip)) (.seq (.seq (.reg r8_3) (.block 0 (.seq (.kill [0, 1, 5, 8, 11]) (.orc 0 (.loop l8_8))))) (.seq (.reg r8_9) (.seq (.kill [0, 1, 2, 3, 5, 8, 10, 11]) .ret)))))
def ain8 : List APat := [⟨[(.ints .i64), (.ints .i64)], []⟩]
def aout8 : List RPat := [⟨(.ints .i64), [], []⟩]
def g8_0 (a0 : List Int) (a1 : List Int) : Option (Nat × List Leaf) :=
  if (4 : Nat) ≤ List.length a1 then altK (g12 (0, [.l (List.take (4 : Nat) a1)])) [fun r => asB r (fun x1 r => asE r (cond (!x1) (some (0, [.l ([(0 : Int), (0 : Int), (0 : Int), (0 : Int), (0 : Int), (0 : Int), (0 : Int), (0 : Int), (0 : Int), (0 : Int), (0 : Int), (0 : Int), (0 : Int), (0 : Int), (0 : Int), (0 : Int)])])) (altK (L8_0 (0, [.i ((0 : Int)), .l (a0), .l (a1), .l ([(0 : Int), (0 : Int), (0 : Int), (0 : Int), (0 : Int), (0 : Int), (0 : Int), (0 : Int), (0 : Int), (0 : Int), (0 : Int), (0 : Int), (0 : Int), (0 : Int), (0 : Int), (0 : Int)])])) [fun r => asL r (fun x11h0 r => asL r (fun x11h1 r => asL r (fun x11h2 r => asE r (if (16 : Nat) ≤ List.length x11h0 then if List.length (List.take (16 : Nat) x11h0) = (16 : Nat) then if (0 : Nat) + List.length (List.take (16 : Nat) x11h0) ≤ List.length x11h2 then if (16 : Nat) ≤ List.length (List.take (16 : Nat) x11h0 ++ List.drop ((0 : Nat) + List.length (List.take (16 : Nat) x11h0)) x11h2) then some (0, [.l (List.take (16 : Nat) (List.take (16 : Nat) x11h0 ++ List.drop ((0 : Nat) + List.length (List.take (16 : Nat) x11h0)) x11h2))]) else none else none else none else none) none) none) none) none] none)) none) none] none else none
def g8 (s : Nat × List Leaf) : Option (Nat × List Leaf) := match s.1 with
  | 0 => let r := s.2; asL r (fun a0 r => asL r (fun a1 r => asE r (g8_0 a0 a1) none) none) none
  | _ => none
def ent8 : Ent := ⟨ain8, aout8, g8⟩
def os8 : List Orc := [orc8_0]
theorem ok8 (n : Nat) : EntSound (evF tab (n + 2)) 8 ent8 :=
  fn_sound (n := n + 1) (ck8 n) (OK := okOf os8) (body := kc8) (show OrcsOk (okOf os8) (evF tab (n + 1)) kc8 from ⟨trivial, ⟨⟨trivial, ⟨⟨trivial, ⟨trivial, trivial⟩⟩, trivial⟩⟩, ⟨⟨trivial, ⟨trivial, (okOf_ok (os := os8) (i := 0) (o := orc8_0) rfl (snd8_0 n))⟩⟩, ⟨trivial, ⟨trivial, trivial⟩⟩⟩⟩⟩) t8 (by kernel_rfl)
    (all_ins (Q := fun i sh => ∀ ls, fillA sh ls (fun args h => fnK (ckOf es8) (okOf os8) sf8 kc8 args h (findRes aout8 0) none) none = g8 (i, ls)) (l := ain8) ⟨fun ls => by kernel_rfl, trivial⟩)
/-! function 15 -/
def es15 : List (FuncId × Ent) := [(18, ent18), (16, ent16)]
theorem ck15 (n : Nat) : CallKOk (ckOf es15) (evF tab (n + 1)) :=
  ckOf_cons (ok18 (n + 0)) (ckOf_cons (ok16 (n + 0)) (ckOf_nil))
def kc15_0 : KC := (.seq (.seq (.reg r15_3) (.seq (.cond (.t 8) .skip (.seq (.kill [0, 1, 4, 5, 6, 7, 8]) (.exit 0))) (.seq (.block 1 (.seq (.reg r15_4) (.reg r15_5))) (.reg r15_6)))) (.kill [0, 1, 4, 5, 8]))
def in15_0 : List SPat := [⟨[(0, .unk), (1, .unk), (2, (.ptr 1 (.c 0))), (3, (.ptr 2 (.c 0))), (4, .unk), (5, .unk), (6, (.ints .i64)), (7, (.int .i64)), (8, .unk)], [(true, (.ints .i64)), (true, (.intsE .i64 4)), (true, (.ints .i64))], [], 0⟩]
def out15_0 : List (SX × SPat) := [((.exit 0), ⟨[(0, .unk), (1, .unk), (2, (.ptr 1 (.c 0))), (3, (.ptr 2 (.c 0))), (4, .unk), (5, .unk), (6, .unk), (7, .unk), (8, .unk)], [(true, (.ints .i64)), (true, (.intsE .i64 4)), (true, (.ints .i64))], [], 0⟩)]
def f15_0_0 (t6 : List Int) (t7 : Int) (h0 : List Int) (h1_0 : Int) (h1_1 : Int) (h1_2 : Int) (h1_3 : Int) (h2 : List Int) : Option (Nat × List Leaf) :=
  cond (Decidable.decide (t7 < (16 : Int))) (if (0 : Int) ≤ t7 ∧ t7 < (16 : Int) then optK (t6[Int.toNat t7]?) (fun x1 => altK (g18 (0, [.i (t7)])) [fun r => asI r (fun x2 r => asE r (altK (g18 (0, [.i (t7)])) [fun r => asI r (fun x3 r => asE r (if (0 : Int) ≤ x3 ∧ x3 < (4 : Int) then optK (h2[Int.toNat x3]?) (fun x4 => altK (g16 (0, [.i (x1)])) [fun r => asI r (fun x5 r => asE r (if (0 : Int) ≤ x2 ∧ x2 < (4 : Int) then if Int.toNat x2 < List.length h2 then some (0, [.l (t6), .i (Go.IntKind.wrap Go.IntKind.i64 (t7 + (1 : Int))), .l (h0), .i (h1_0), .i (h1_1), .i (h1_2), .i (h1_3), .l (List.set h2 (Int.toNat x2) (if x5 > x4 then x5 else x4))]) else none else none) none) none] none) (none) else none) none) none] none) none) none] none) (none) else none) (some (1, [.l (h0), .i (h1_0), .i (h1_1), .i (h1_2), .i (h1_3), .l (h2)]))
def f15_0 (s : Nat × List Leaf) : Option (Nat × List Leaf) := match s.1 with
  | 0 => let r := s.2; asL r (fun t6 r => asI r (fun t7 r => asL r (fun h0 r => asI r (fun h1_0 r => asI r (fun h1_1 r => asI r (fun h1_2 r => asI r (fun h1_3 r => asL r (fun h2 r => asE r (f15_0_0 t6 t7 h0 h1_0 h1_1 h1_2 h1_3 h2) none) none) none) none) none) none) none) none) none
  | _ => none
def L15_0 (s : Nat × List Leaf) : Option (Nat × List Leaf) := loopL 1 f15_0 s
def orc15_0 : Orc := ⟨in15_0, out15_0, L15_0⟩
def os15_0 : List Orc := []
theorem snd15_0 (n : Nat) : OrcSound (evF tab (n + 1)) (.loop l15_7) orc15_0 :=
  loop_sound (b := kc15_0) (OK := okOf os15_0) (ck15 n) (show OrcsOk (okOf os15_0) (evF tab (n + 1)) kc15_0 from ⟨⟨trivial, ⟨⟨trivial, ⟨trivial, trivial⟩⟩, ⟨⟨trivial, trivial⟩, trivial⟩⟩⟩, trivial⟩) (ins := in15_0) (outs := out15_0) (f := f15_0) (by kernel_rfl)
    (all_ins (Q := fun i sh => ∀ ls, fillS sh ls (fun st => evK (ckOf es15) (okOf os15_0) kc15_0 st (findOut (in15_0.map (SX.normal, ·) ++ out15_0) 0) none) none = f15_0 (i, ls)) (l := in15_0) ⟨fun ls => by kernel_rfl, trivial⟩)
def kc15 : KC := (.seq (.reg r15_0) (.seq (.reg r15_1) (.seq (.seq (.reg r15_2) (.block 0 (.seq (.kill [0, 1, 4, 5, 8]) (.orc 0 (.loop l15_7))))) (.seq (.reg r15_8) (.seq (.kill [0, 1, 3, 4, 5, 6, 7, 8]) .ret)))))
def ain15 : List APat := [⟨[(.ints .i64)], []⟩]
def aout15 : List RPat := [⟨(.ints .i64), [], []⟩]
def g15_0 (a0 : List Int) : Option (Nat × List Leaf) :=
  if (16 : Nat) ≤ List.length a0 then altK (L15_0 (0, [.l (List.take (16 : Nat) a0), .i ((0 : Int)), .l (a0), .i ((0 : Int)), .i ((0 : Int)), .i ((0 : Int)), .i ((0 : Int)), .l ([(0 : Int), (0 : Int), (0 : Int), (0 : Int)])])) [fun r => asL r (fun x10h0 r => asI r (fun x10h1_0 r => asI r (fun x10h1_1 r => asI r (fun x10h1_2 r => asI r (fun x10h1_3 r => asL r (fun x10h2 r => asE r (if (4 : Nat) ≤ List.length x10h2 then if List.length (List.take (4 : Nat) x10h2) = (4 : Nat) then if (0 : Nat) + List.length (List.take (4 : Nat) x10h2) ≤ List.length [x10h1_0, x10h1_1, x10h1_2, x10h1_3] then if (4 : Nat) ≤ List.length (List.take (4 : Nat) x10h2 ++ List.drop ((0 : Nat) + List.length (List.take (4 : Nat) x10h2)) [x10h1_0, x10h1_1, x10h1_2, x10h1_3]) then some (0, [.l (List.take (4 : Nat) (List.take (4 : Nat) x10h2 ++ List.drop ((0 : Nat) + List.length (List.take (4 : Nat) x10h2)) [x10h1_0, x10h1_1, x10h1_2, x10h1_3]))]) else none else none else none else none) none) none) none) none) none) none) none] none else none
def g15 (s : Nat × List Leaf) : Option (Nat × List Leaf) := match s.1 with
  | 0 => let r := s.2; asL r (fun a0 r => asE r (g15_0 a0) none) none
  | _ => none
def ent15 : Ent := ⟨ain15, aout15, g15⟩
def os15 : List Orc := [orc15_0]
theorem ok15 (n : Nat) : EntSound (evF tab (n + 2)) 15 ent15 :=
  fn_sound (n := n + 1) (ck15 n) (OK := okOf os15) (body := kc15) (show OrcsOk (okOf os15) (evF tab (n + 1)) kc15 from ⟨trivial, ⟨trivial, ⟨⟨trivial, ⟨trivial, (okOf_ok (os := os15) (i := 0) (o := orc15_0) rfl (snd15_0 n))⟩⟩, ⟨trivial, ⟨trivial, trivial⟩⟩⟩⟩⟩) t15 (by kernel_rfl)
    (all_ins (Q := fun i sh => ∀ ls, fillA sh ls (fun args h => fnK (ckOf es15) (okOf os15) sf15 kc15 args h (findRes aout15 0) none) none = g15 (i, ls)) (l := ain15) ⟨fun ls => by kernel_rfl, trivial⟩)
/-! function 19 -/
def es19 : List (FuncId × Ent) := [(22, ent22)]
theorem ck19 (n : Nat) : CallKOk (ckOf es19) (evF tab (n + 2)) :=
  ckOf_cons (ok22 (n + 0)) (ckOf_nil)
def kc19_0 : KC := (.seq (.seq (.reg r19_3) (.seq (.cond (.t 8) .skip (.seq (.kill [0, 1, 2, 3, 4, 6, 7, 8]) (.exit 0))) (.seq (.block 1 (.seq (.reg r19_4) (.reg r19_5))) (.reg r19_6)))) (.kill [0, 1, 4, 6, 8]))
def in19_0 : List SPat := [⟨[(0, .unk), (1, .unk), (2, (.ptr 0 (.c 0))), (3, (.ptr 1 (.c 0))), (4, .unk), (5, (.ptr 2 (.c 0))), (6, .unk), (7, (.int .i64)), (8, .unk)], [(true, (.ints .i64)), (true, (.ints .i64)), (true, (.ints .i64))], [], 0⟩]
def out19_0 : List (SX × SPat) := [((.exit 0), ⟨[(0, .unk), (1, .unk), (2, .unk), (3, .unk), (4, .unk), (5, (.ptr 2 (.c 0))), (6, .unk), (7, .unk), (8, .unk)], [(true, (.ints .i64)), (true, (.ints .i64)), (true, (.ints .i64))], [], 0⟩)]
def f19_0_0 (t7 : Int) (h0 : List Int) (h1 : List Int) (h2 : List Int) : Option (Nat × List Leaf) :=
  cond (Decidable.decide (t7 < (16 : Int))) (if (0 : Int) ≤ t7 ∧ t7 < (16 : Int) then optK (h0[Int.toNat t7]?) (fun x1 => if (0 : Int) ≤ t7 ∧ t7 < (16 : Int) then optK (h1[Int.toNat t7]?) (fun x2 => if (0 : Int) ≤ t7 ∧ t7 < (16 : Int) then if Int.toNat t7 < List.length h2 then some (0, [.i (Go.IntKind.wrap Go.IntKind.i64 (t7 + (1 : Int))), .l (h0), .l (h1), .l (List.set h2 (Int.toNat t7) (Go.IntKind.wrap Go.IntKind.i64 (x1 - x2)))]) else none else none) (none) else none) (none) else none) (some (1, [.l (h0), .l (h1), .l (h2)]))
def f19_0 (s : Nat × List Leaf) : Option (Nat × List Leaf) := match s.1 with
  | 0 => let r := s.2; asI r (fun t7 r => asL r (fun h0 r => asL r (fun h1 r => asL r (fun h2 r => asE r (f19_0_0 t7 h0 h1 h2) none) none) none) none) none
  | _ => none
def L19_0 (s : Nat × List Leaf) : Option (Nat × List Leaf) := loopL 1 f19_0 s
def orc19_0 : Orc := ⟨in19_0, out19_0, L19_0⟩
def os19_0 : List Orc := []
theorem snd19_0 (n : Nat) : OrcSound (evF tab (n + 2)) (.loop l19_7) orc19_0 :=
  loop_sound (b := kc19_0) (OK := okOf os19_0) (ck19 n) (show OrcsOk (okOf os19_0) (evF tab (n + 2)) kc19_0 from ⟨⟨trivial, ⟨⟨trivial, ⟨trivial, trivial⟩⟩, ⟨⟨trivial, trivial⟩, trivial⟩⟩⟩, trivial⟩) (ins := in19_0) (outs := out19_0) (f := f19_0) (by kernel_rfl)
    (all_ins (Q := fun i sh => ∀ ls, fillS sh ls (fun st => evK (ckOf es19) (okOf os19_0) kc19_0 st (findOut (in19_0.map (SX.normal, ·) ++ out19_0) 0) none) none = f19_0 (i, ls)) (l := in19_0) ⟨fun ls => by kernel_rfl, trivial⟩)
def kc19 : KC := (.seq (.reg r19_0) (.seq (.reg r19_1) (.seq (.seq (.reg r19_2) (.block 0 (.seq (.kill [0, 1, 4, 6, 8]) (.orc 0 (.loop l19_7))))) (.seq (.reg r19_8) (.seq (.kill [0, 1, 2, 3, 5, 6, 7, 8]) .ret)))))
def ain19 : List APat := [⟨[(.ints .i64), (.ints .i64)], []⟩]
def aout19 : List RPat := [⟨(.int .i64), [], []⟩]
def g19_0 (a0 : List Int) (a1 : List Int) : Option (Nat × List Leaf) :=
  altK (L19_0 (0, [.i ((0 : Int)), .l (a0), .l (a1), .l ([(0 : Int), (0 : Int), (0 : Int), (0 : Int), (0 : Int), (0 : Int), (0 : Int), (0 : Int), (0 : Int), (0 : Int), (0 : Int), (0 : Int), (0 : Int), (0 : Int), (0 : Int), (0 : Int)])])) [fun r => asL r (fun x10h0 r => asL r (fun x10h1 r => asL r (fun x10h2 r => asE r (if (16 : Nat) ≤ List.length x10h2 then altK (g22 (0, [.n ((16 : Nat)), .l (x10h2)])) [fun r => asI r (fun x11 r => asL r (fun x11h0 r => asE r (some (0, [.i (x11)])) none) none) none] none else none) none) none) none) none] none
def g19 (s : Nat × List Leaf) : Option (Nat × List Leaf) := match s.1 with
  | 0 => let r := s.2; asL r (fun a0 r => asL r (fun a1 r => asE r (g19_0 a0 a1) none) none) none
  | _ => none
def ent19 : Ent := ⟨ain19, aout19, g19⟩
def os19 : List Orc := [orc19_0]
theorem ok19 (n : Nat) : EntSound (evF tab (n + 3)) 19 ent19 :=
  fn_sound (n := n + 2) (ck19 n) (OK := okOf os19) (body := kc19) (show OrcsOk (okOf os19) (evF tab (n + 2)) kc19 from ⟨trivial, ⟨trivial, ⟨⟨trivial, ⟨trivial, (okOf_ok (os := os19) (i := 0) (o := orc19_0) rfl (snd19_0 n))⟩⟩, ⟨trivial, ⟨trivial, trivial⟩⟩⟩⟩⟩) t19 (by kernel_rfl)
    (all_ins (Q := fun i sh => ∀ ls, fillA sh ls (fun args h => fnK (ckOf es19) (okOf os19) sf19 kc19 args h (findRes aout19 0) none) none = g19 (i, ls)) (l := ain19) ⟨fun ls => by kernel_rfl, trivial⟩)
/-! function 17 -/
def es17 : List (FuncId × Ent) := []
theorem ck17 (n : Nat) : CallKOk (ckOf es17) (evF tab (n + 0)) :=
  ckOf_nil
def kc17_0 : KC := (.seq (.seq (.reg r17_3) (.seq (.cond (.t 8) .skip (.seq (.kill [0, 1, 2, 5, 6, 7, 8]) (.exit 0))) (.seq (.block 1 (.seq (.reg r17_4) (.reg r17_5))) (.reg r17_6)))) (.kill [0, 1, 2, 5, 8]))
def in17_0 : List SPat := [⟨[(0, .unk), (1, .unk), (2, .unk), (3, (.int .i64)), (5, .unk), (6, (.ints .i64)), (7, (.int .i64)), (8, .unk)], [(true, (.ints .i64))], [], 0⟩]
def out17_0 : List (SX × SPat) := [((.exit 0), ⟨[(0, .unk), (1, .unk), (2, .unk), (3, (.int .i64)), (5, .unk), (6, .unk), (7, .unk), (8, .unk)], [(true, (.ints .i64))], [], 0⟩)]
def f17_0_0 (t3 : Int) (t6 : List Int) (t7 : Int) (h0 : List Int) : Option (Nat × List Leaf) :=
  cond (Decidable.decide (t7 < (4 : Int))) (if (0 : Int) ≤ t7 ∧ t7 < (4 : Int) then optK (t6[Int.toNat t7]?) (fun x1 => some (0, [.i (Go.IntKind.wrap Go.IntKind.i64 (t3 + Go.IntKind.wrap Go.IntKind.i64 ((4 : Int) * x1))), .l (t6), .i (Go.IntKind.wrap Go.IntKind.i64 (t7 + (1 : Int))), .l (h0)])) (none) else none) (some (1, [.i (t3), .l (h0)]))
def f17_0 (s : Nat × List Leaf) : Option (Nat × List Leaf) := match s.1 with
  | 0 => let r := s.2; asI r (fun t3 r => asL r (fun t6 r => asI r (fun t7 r => asL r (fun h0 r => asE r (f17_0_0 t3 t6 t7 h0) none) none) none) none) none
  | _ => none
def L17_0 (s : Nat × List Leaf) : Option (Nat × List Leaf) := loopL 1 f17_0 s
def orc17_0 : Orc := ⟨in17_0, out17_0, L17_0⟩
def os17_0 : List Orc := []
theorem snd17_0 (n : Nat) : OrcSound (evF tab (n + 0)) (.loop l17_7) orc17_0 :=
  loop_sound (b := kc17_0) (OK := okOf os17_0) (ck17 n) (show OrcsOk (okOf os17_0) (evF tab (n + 0)) kc17_0 from ⟨⟨trivial, ⟨⟨trivial, ⟨trivial, trivial⟩⟩, ⟨⟨trivial, trivial⟩, trivial⟩⟩⟩, trivial⟩) (ins := in17_0) (outs := out17_0) (f := f17_0) (by kernel_rfl)
    (all_ins (Q := fun i sh => ∀ ls, fillS sh ls (fun st => evK (ckOf es17) (okOf os17_0) kc17_0 st (findOut (in17_0.map (SX.normal, ·) ++ out17_0) 0) none) none = f17_0 (i, ls)) (l := in17_0) ⟨fun ls => by kernel_rfl, trivial⟩)
def kc17 : KC := (.seq (.reg r17_0) (.seq (.reg r17_1) (.seq (.seq (.reg r17_2) (.block 0 (.seq (.kill [0, 1, 2, 5, 8]) (.orc 0 (.loop l17_7))))) (.seq (.reg r17_8) (.seq (.kill [0, 1, 3, 5, 6, 7, 8]) .ret)))))
def ain17 : List APat := [⟨[(.ints .i64)], []⟩]
def aout17 : List RPat := [⟨(.int .i64), [], []⟩]
def g17_0 (a0 : List Int) : Option (Nat × List Leaf) :=
  if (4 : Nat) ≤ List.length a0 then altK (L17_0 (0, [.i ((0 : Int)), .l (List.take (4 : Nat) a0), .i ((0 : Int)), .l (a0)])) [fun r => asI r (fun x4 r => asL r (fun x9h0 r => asE r (some (0, [.i (x4)])) none) none) none] none else none
def g17 (s : Nat × List Leaf) : Option (Nat × List Leaf) := match s.1 with
  | 0 => let r := s.2; asL r (fun a0 r => asE r (g17_0 a0) none) none
  | _ => none
def ent17 : Ent := ⟨ain17, aout17, g17⟩
def os17 : List Orc := [orc17_0]
theorem ok17 (n : Nat) : EntSound (evF tab (n + 1)) 17 ent17 :=
  fn_sound (n := n + 0) (ck17 n) (OK := okOf os17) (body := kc17) (show OrcsOk (okOf os17) (evF tab (n + 0)) kc17 from ⟨trivial, ⟨trivial, ⟨⟨trivial, ⟨trivial, (okOf_ok (os := os17) (i := 0) (o := orc17_0) rfl (snd17_0 n))⟩⟩, ⟨trivial, ⟨trivial, trivial⟩⟩⟩⟩⟩) t17 (by kernel_rfl)
    (all_ins (Q := fun i sh => ∀ ls, fillA sh ls (fun args h => fnK (ckOf es17) (okOf os17) sf17 kc17 args h (findRes aout17 0) none) none = g17 (i, ls)) (l := ain17) ⟨fun ls => by kernel_rfl, trivial⟩)
/-! function 13 -/
def es13 : List (FuncId × Ent) := []
theorem ck13 (n : Nat) : CallKOk (ckOf es13) (evF tab (n + 0)) :=
  ckOf_nil
def kc13_0 : KC := (.seq (.seq (.seq (.reg r13_2) (.cond (.t 5) .skip (.seq (.kill [0, 1, 2, 3, 5, 17]) (.exit 0)))) (.seq (.block 1 (.seq (.reg r13_3) (.cond (.t 17) (.seq (.reg r13_4) (.seq (.kill [0, 1, 3, 5, 17]) .ret)) .skip))) (.reg r13_5))) (.kill [0, 2, 5, 17]))
def in13_0 : List SPat := [⟨[(0, .unk), (1, (.ptr 0 (.c 0))), (2, .unk), (3, (.int .i64)), (5, .unk), (17, .unk)], [(true, (.ints .i64))], [], 0⟩]
def out13_0 : List (SX × SPat) := [((.exit 0), ⟨[(0, .unk), (1, .unk), (2, .unk), (3, .unk), (5, .unk), (17, .unk)], [(true, (.ints .i64))], [], 0⟩), (.ret, ⟨[(0, .unk), (1, .unk), (2, (.cbool false)), (3, .unk), (5, .unk), (17, .unk)], [(true, (.ints .i64))], [], 0⟩)]
def f13_0_0 (t3 : Int) (h0 : List Int) : Option (Nat × List Leaf) :=
  cond (Decidable.decide (t3 < (16 : Int))) (if (0 : Int) ≤ t3 ∧ t3 < (16 : Int) then optK (h0[Int.toNat t3]?) (fun x1 => cond (Decidable.decide (x1 < (-1099511627776 : Int))) (some (2, [.l (h0)])) (if (0 : Int) ≤ t3 ∧ t3 < (16 : Int) then optK (h0[Int.toNat t3]?) (fun x2 => cond (Decidable.decide ((1099511627776 : Int) < x2)) (some (2, [.l (h0)])) (some (0, [.i (Go.IntKind.wrap Go.IntKind.i64 (t3 + (1 : Int))), .l (h0)]))) (none) else none)) (none) else none) (some (1, [.l (h0)]))
def f13_0 (s : Nat × List Leaf) : Option (Nat × List Leaf) := match s.1 with
  | 0 => let r := s.2; asI r (fun t3 r => asL r (fun h0 r => asE r (f13_0_0 t3 h0) none) none) none
  | _ => none
def L13_0 (s : Nat × List Leaf) : Option (Nat × List Leaf) := loopL 1 f13_0 s
def orc13_0 : Orc := ⟨in13_0, out13_0, L13_0⟩
def os13_0 : List Orc := []
theorem snd13_0 (n : Nat) : OrcSound (evF tab (n + 0)) (.loop l13_6) orc13_0 :=
  loop_sound (b := kc13_0) (OK := okOf os13_0) (ck13 n) (show OrcsOk (okOf os13_0) (evF tab (n + 0)) kc13_0 from ⟨⟨⟨trivial, ⟨trivial, ⟨trivial, trivial⟩⟩⟩, ⟨⟨trivial, ⟨⟨trivial, ⟨trivial, trivial⟩⟩, trivial⟩⟩, trivial⟩⟩, trivial⟩) (ins := in13_0) (outs := out13_0) (f := f13_0) (by kernel_rfl)
    (all_ins (Q := fun i sh => ∀ ls, fillS sh ls (fun st => evK (ckOf es13) (okOf os13_0) kc13_0 st (findOut (in13_0.map (SX.normal, ·) ++ out13_0) 0) none) none = f13_0 (i, ls)) (l := in13_0) ⟨fun ls => by kernel_rfl, trivial⟩)
def kc13 : KC := (.seq (.reg r13_0) (.seq (.seq (.reg r13_1) (.block 0 (.seq (.kill [0, 2, 5, 17]) (.orc 0 (.loop l13_6))))) (.seq (.reg r13_7) (.seq (.kill [0, 1, 3, 5, 17]) .ret))))
def ain13 : List APat := [⟨[(.ints .i64)], []⟩]
def aout13 : List RPat := [⟨.bool, [], []⟩]
def g13_0 (a0 : List Int) : Option (Nat × List Leaf) :=
  altK (L13_0 (0, [.i ((0 : Int)), .l (a0)])) [fun r => asL r (fun x7h0 r => asE r (some (0, [.b (Bool.true)])) none) none, fun r => asL r (fun x14h0 r => asE r (some (0, [.b (Bool.false)])) none) none] none
def g13 (s : Nat × List Leaf) : Option (Nat × List Leaf) := match s.1 with
  | 0 => let r := s.2; asL r (fun a0 r => asE r (g13_0 a0) none) none
  | _ => none
def ent13 : Ent := ⟨ain13, aout13, g13⟩
def os13 : List Orc := [orc13_0]
theorem ok13 (n : Nat) : EntSound (evF tab (n + 1)) 13 ent13 :=
  fn_sound (n := n + 0) (ck13 n) (OK := okOf os13) (body := kc13) (show OrcsOk (okOf os13) (evF tab (n + 0)) kc13 from ⟨trivial, ⟨⟨trivial, ⟨trivial, (okOf_ok (os := os13) (i := 0) (o := orc13_0) rfl (snd13_0 n))⟩⟩, ⟨trivial, ⟨trivial, trivial⟩⟩⟩⟩) t13 (by kernel_rfl)
    (all_ins (Q := fun i sh => ∀ ls, fillA sh ls (fun args h => fnK (ckOf es13) (okOf os13) sf13 kc13 args h (findRes aout13 0) none) none = g13 (i, ls)) (l := ain13) ⟨fun ls => by kernel_rfl, trivial⟩)
/-! function 9 -/
def es9 : List (FuncId × Ent) := []
theorem ck9 (n : Nat) : CallKOk (ckOf es9) (evF tab (n + 0)) :=
  ckOf_nil
def kc9_0 : KC := (.seq (.seq (.seq (.reg r9_2) (.cond (.t 5) .skip (.seq (.kill [0, 1, 2, 3, 5, 17]) (.exit 0)))) (.seq (.block 1 (.seq (.reg r9_3) (.cond (.t 17) (.seq (.reg r9_4) (.seq (.kill [0, 1, 3, 5, 17]) .ret)) .skip))) (.reg r9_5))) (.kill [0, 2, 5, 17]))
def in9_0 : List SPat := [⟨[(0, .unk), (1, (.ptr 0 (.c 0))), (2, .unk), (3, (.int .i64)), (5, .unk), (17, .unk)], [(true, (.ints .i64))], [], 0⟩]
def out9_0 : List (SX × SPat) := [((.exit 0), ⟨[(0, .unk), (1, .unk), (2, .unk), (3, .unk), (5, .unk), (17, .unk)], [(true, (.ints .i64))], [], 0⟩), (.ret, ⟨[(0, .unk), (1, .unk), (2, (.cbool false)), (3, .unk), (5, .unk), (17, .unk)], [(true, (.ints .i64))], [], 0⟩)]
def f9_0_0 (t3 : Int) (h0 : List Int) : Option (Nat × List Leaf) :=
  cond (Decidable.decide (t3 < (4 : Int))) (if (0 : Int) ≤ t3 ∧ t3 < (4 : Int) then optK (h0[Int.toNat t3]?) (fun x1 => cond (Decidable.decide (x1 < (0 : Int))) (some (2, [.l (h0)])) (if (0 : Int) ≤ t3 ∧ t3 < (4 : Int) then optK (h0[Int.toNat t3]?) (fun x2 => cond (Decidable.decide ((23 : Int) < x2)) (some (2, [.l (h0)])) (some (0, [.i (Go.IntKind.wrap Go.IntKind.i64 (t3 + (1 : Int))), .l (h0)]))) (none) else none)) (none) else none) (some (1, [.l (h0)]))
def f9_0 (s : Nat × List Leaf) : Option (Nat × List Leaf) := match s.1 with
  | 0 => let r := s.2; asI r (fun t3 r => asL r (fun h0 r => asE r (f9_0_0 t3 h0) none) none) none
  | _ => none
def L9_0 (s : Nat × List Leaf) : Option (Nat × List Leaf) := loopL 1 f9_0 s
def orc9_0 : Orc := ⟨in9_0, out9_0, L9_0⟩
def os9_0 : List Orc := []
theorem snd9_0 (n : Nat) : OrcSound (evF tab (n + 0)) (.loop l9_6) orc9_0 :=
  loop_sound (b := kc9_0) (OK := okOf os9_0) (ck9 n) (show OrcsOk (okOf os9_0) (evF tab (n + 0)) kc9_0 from ⟨⟨⟨trivial, ⟨trivial, ⟨trivial, trivial⟩⟩⟩, ⟨⟨trivial, ⟨⟨trivial, ⟨trivial, trivial⟩⟩, trivial⟩⟩, trivial⟩⟩, trivial⟩) (ins := in9_0) (outs := out9_0) (f := f9_0) (by kernel_rfl)
    (all_ins (Q := fun i sh => ∀ ls, fillS sh ls (fun st => evK (ckOf es9) (okOf os9_0) kc9_0 st (findOut (in9_0.map (SX.normal, ·) ++ out9_0) 0) none) none = f9_0 (i, ls)) (l := in9_0) ⟨fun ls => by kernel_rfl, trivial⟩)
def kc9 : KC := (.seq (.reg r9_0) (.seq (.seq (.reg r9_1) (.block 0 (.seq (.kill [0, 2, 5, 17]) (.orc 0 (.loop l9_6))))) (.seq (.reg r9_7) (.seq (.kill [0, 1, 3, 5, 17]) .ret))))
def ain9 : List APat := [⟨[(.ints .i64)], []⟩]
def aout9 : List RPat := [⟨.bool, [], []⟩]
def g9_0 (a0 : List Int) : Option (Nat × List Leaf) :=
  altK (L9_0 (0, [.i ((0 : Int)), .l (a0)])) [fun r => asL r (fun x7h0 r => asE r (some (0, [.b (Bool.true)])) none) none, fun r => asL r (fun x14h0 r => asE r (some (0, [.b (Bool.false)])) none) none] none
def g9 (s : Nat × List Leaf) : Option (Nat × List Leaf) := match s.1 with
  | 0 => let r := s.2; asL r (fun a0 r => asE r (g9_0 a0) none) none
  | _ => none
def ent9 : Ent := ⟨ain9, aout9, g9⟩
def os9 : List Orc := [orc9_0]
theorem ok9 (n : Nat) : EntSound (evF tab (n + 1)) 9 ent9 :=
  fn_sound (n := n + 0) (ck9 n) (OK := okOf os9) (body := kc9) (show OrcsOk (okOf os9) (evF tab (n + 0)) kc9 from ⟨trivial, ⟨⟨trivial, ⟨trivial, (okOf_ok (os := os9) (i := 0) (o := orc9_0) rfl (snd9_0 n))⟩⟩, ⟨trivial, ⟨trivial, trivial⟩⟩⟩⟩) t9 (by kernel_rfl)
    (all_ins (Q := fun i sh => ∀ ls, fillA sh ls (fun args h => fnK (ckOf es9) (okOf os9) sf9 kc9 args h (findRes aout9 0) none) none = g9 (i, ls)) (l := ain9) ⟨fun ls => by kernel_rfl, trivial⟩)
/-! function 10 -/
def es10 : List (FuncId × Ent) := []
theorem ck10 (n : Nat) : CallKOk (ckOf es10) (evF tab (n + 0)) :=
  ckOf_nil
def kc10_0 : KC := (.seq (.seq (.seq (.reg r10_3) (.cond (.t 7) .skip (.seq (.kill [0, 2, 4, 7]) (.exit 0)))) (.seq (.block 1 (.reg r10_4)) (.reg r10_5))) (.kill [2, 7]))
def in10_0 : List SPat := [⟨[(0, (.int .i64)), (2, .unk), (3, (.int .i64)), (4, (.int .i64)), (7, .unk)], [], [], 0⟩]
def out10_0 : List (SX × SPat) := [((.exit 0), ⟨[(0, .unk), (2, .unk), (3, (.int .i64)), (4, .unk), (7, .unk)], [], [], 0⟩)]
def f10_0_0 (t0 : Int) (t3 : Int) (t4 : Int) : Option (Nat × List Leaf) :=
  cond (Decidable.decide (t4 < t0)) (some (0, [.i (t0), .i (Go.IntKind.wrap Go.IntKind.i64 ((2 : Int) * t3)), .i (Go.IntKind.wrap Go.IntKind.i64 (t4 + (1 : Int)))])) (some (1, [.i (t3)]))
def f10_0 (s : Nat × List Leaf) : Option (Nat × List Leaf) := match s.1 with
  | 0 => let r := s.2; asI r (fun t0 r => asI r (fun t3 r => asI r (fun t4 r => asE r (f10_0_0 t0 t3 t4) none) none) none) none
  | _ => none
def L10_0 (s : Nat × List Leaf) : Option (Nat × List Leaf) := loopL 1 f10_0 s
def orc10_0 : Orc := ⟨in10_0, out10_0, L10_0⟩
def os10_0 : List Orc := []
theorem snd10_0 (n : Nat) : OrcSound (evF tab (n + 0)) (.loop l10_6) orc10_0 :=
  loop_sound (b := kc10_0) (OK := okOf os10_0) (ck10 n) (show OrcsOk (okOf os10_0) (evF tab (n + 0)) kc10_0 from ⟨⟨⟨trivial, ⟨trivial, ⟨trivial, trivial⟩⟩⟩, ⟨trivial, trivial⟩⟩, trivial⟩) (ins := in10_0) (outs := out10_0) (f := f10_0) (by kernel_rfl)
    (all_ins (Q := fun i sh => ∀ ls, fillS sh ls (fun st => evK (ckOf es10) (okOf os10_0) kc10_0 st (findOut (in10_0.map (SX.normal, ·) ++ out10_0) 0) none) none = f10_0 (i, ls)) (l := in10_0) ⟨fun ls => by kernel_rfl, trivial⟩)
def kc10 : KC := (.seq (.reg r10_0) (.seq (.reg r10_1) (.seq (.seq (.reg r10_2) (.block 0 (.seq (.kill [2, 7]) (.orc 0 (.loop l10_6))))) (.seq (.reg r10_7) (.seq (.kill [0, 3, 4, 7]) .ret)))))
def ain10 : List APat := [⟨[(.int .i64)], []⟩]
def aout10 : List RPat := [⟨(.int .i64), [], []⟩]
def g10_0 (a0 : Int) : Option (Nat × List Leaf) :=
  altK (L10_0 (0, [.i (a0), .i ((1 : Int)), .i ((0 : Int))])) [fun r => asI r (fun x3 r => asE r (some (0, [.i (x3)])) none) none] none
def g10 (s : Nat × List Leaf) : Option (Nat × List Leaf) := match s.1 with
  | 0 => let r := s.2; asI r (fun a0 r => asE r (g10_0 a0) none) none
  | _ => none
def ent10 : Ent := ⟨ain10, aout10, g10⟩
def os10 : List Orc := [orc10_0]
theorem ok10 (n : Nat) : EntSound (evF tab (n + 1)) 10 ent10 :=
  fn_sound (n := n + 0) (ck10 n) (OK := okOf os10) (body := kc10) (show OrcsOk (okOf os10) (evF tab (n + 0)) kc10 from ⟨trivial, ⟨trivial, ⟨⟨trivial, ⟨trivial, (okOf_ok (os := os10) (i := 0) (o := orc10_0) rfl (snd10_0 n))⟩⟩, ⟨trivial, ⟨trivial, trivial⟩⟩⟩⟩⟩) t10 (by kernel_rfl)
    (all_ins (Q := fun i sh => ∀ ls, fillA sh ls (fun args h => fnK (ckOf es10) (okOf os10) sf10 kc10 args h (findRes aout10 0) none) none = g10 (i, ls)) (l := ain10) ⟨fun ls => by kernel_rfl, trivial⟩)
/-! function 7: closed -/
theorem ok7 (n : Nat) : EntSound (evF tab (n + 20)) 7 awakeE := awake_sound (by kernel_rfl)
/-! function 4 -/
def es4 : List (FuncId × Ent) := [(11, ent11), (8, ent8), (12, ent12), (9, ent9), (13, ent13), (7, awakeE), (10, ent10), (14, ent14)]
theorem ck4 (n : Nat) : CallKOk (ckOf es4) (evF tab (n + 20)) :=
  ckOf_cons (ok11 (n + 18)) (ckOf_cons (ok8 (n + 18)) (ckOf_cons (ok12 (n + 19)) (ckOf_cons (ok9 (n + 19)) (ckOf_cons (ok13 (n + 19)) (ckOf_cons (ok7 (n + 0)) (ckOf_cons (ok10 (n + 19)) (ckOf_cons (ok14 (n + 18)) (ckOf_nil))))))))
def kc4_0 : KC := (.seq (.seq (.seq (.reg r4_10) (.cond (.t 42) .skip (.seq (.kill [0, 1, 2, 3, 4, 5, 6, 7, 8, 9, 10, 11, 22, 25, 39, 42, 54, 67, 113]) (.exit 0)))) (.seq (.block 1 (.seq (.reg r4_11) (.seq (.reg r4_12) (.seq (.seq (.reg r4_13) (.cond (.t 54) (.reg r4_14) .skip)) (.seq (.reg r4_15) (.seq (.seq (.reg r4_16) (.cond (.t 67) (.reg r4_17) .skip)) (.seq (.reg r4_18) (.seq (.reg r4_19) (.cond (.t 113) (.seq (.reg r4_20) (.seq (.kill [0, 1, 2, 3, 5, 6, 7, 8, 9, 10, 11, 22, 25, 39, 42, 54, 67, 113]) .ret)) .skip))))))))) (.reg r4_21))) (.kill [0, 1, 4, 8, 9, 10, 11, 22, 25, 39, 42, 54, 67, 113]))
def in4_0 : List SPat := [⟨[(0, .unk), (1, .unk), (2, (.ptr 0 (.c 0))), (3, (.ptr 1 (.c 0))), (4, .unk), (5, (.ptr 2 (.c 0))), (6, (.ptr 3 (.c 0))), (7, (.int .i64)), (8, .unk), (9, .unk), (10, .unk), (11, .unk), (22, .unk), (25, .unk), (39, .unk), (42, .unk), (54, .unk), (67, .unk), (113, .unk)], [(true, (.ints .i64)), (true, (.ints .i64)), (true, (.ints .i64)), (true, (.ints .i64))], [], 0⟩]
def out4_0 : List (SX × SPat) := [((.exit 0), ⟨[(0, .unk), (1, .unk), (2, .unk), (3, .unk), (4, .unk), (5, .unk), (6, .unk), (7, .unk), (8, .unk), (9, .unk), (10, .unk), (11, .unk), (22, .unk), (25, .unk), (39, .unk), (42, .unk), (54, .unk), (67, .unk), (113, .unk)], [(true, (.ints .i64)), (true, (.ints .i64)), (true, (.ints .i64)), (true, (.ints .i64))], [], 0⟩), (.ret, ⟨[(0, .unk), (1, .unk), (2, .unk), (3, .unk), (4, (.cbool false)), (5, .unk), (6, .unk), (7, .unk), (8, .unk), (9, .unk), (10, .unk), (11, .unk), (22, .unk), (25, .unk), (39, .unk), (42, .unk), (54, .unk), (67, .unk), (113, .unk)], [(true, (.ints .i64)), (true, (.ints .i64)), (true, (.ints .i64)), (true, (.ints .i64))], [], 0⟩)]
def f4_0_0 (t7 : Int) (h0 : List Int) (h1 : List Int) (h2 : List Int) (h3 : List Int) : Option (Nat × List Leaf) :=
  cond (Decidable.decide (t7 < (16 : Int))) (if (0 : Int) ≤ Go.IntKind.wrap Go.IntKind.i64 (Int.tdiv t7 (4 : Int)) ∧ Go.IntKind.wrap Go.IntKind.i64 (Int.tdiv t7 (4 : Int)) < (4 : Int) then optK (h1[Int.toNat (Go.IntKind.wrap Go.IntKind.i64 (Int.tdiv t7 (4 : Int)))]?) (fun x1 => altK (g10 (0, [.i (x1)])) [fun r => asI r (fun x2 r => asE r (if (0 : Int) ≤ t7 ∧ t7 < (16 : Int) then optK (h0[Int.toNat t7]?) (fun x3 => cond (Decidable.decide (x3 < (0 : Int))) (if Go.IntKind.wrap Go.IntKind.i64 ((2 : Int) * x2) = (0 : Int) then none else if (0 : Int) ≤ t7 ∧ t7 < (16 : Int) then optK (h0[Int.toNat t7]?) (fun x15 => cond (Decidable.decide (x15 < (0 : Int))) (if (0 : Int) ≤ t7 ∧ t7 < (16 : Int) then optK (h0[Int.toNat t7]?) (fun x21 => if (0 : Int) ≤ t7 ∧ t7 < (16 : Int) then optK (h2[Int.toNat t7]?) (fun x22 => cond (Decidable.decide (x22 ≠ Go.IntKind.wrap Go.IntKind.i64 ((0 : Int) - Go.IntKind.wrap Go.IntKind.i64 (Int.tdiv (Go.IntKind.wrap Go.IntKind.i64 (Go.IntKind.wrap Go.IntKind.i64 ((2 : Int) * Go.IntKind.wrap Go.IntKind.i64 ((0 : Int) - x3)) + x2)) (Go.IntKind.wrap Go.IntKind.i64 ((2 : Int) * x2)))))) (some (2, [.l (h0), .l (h1), .l (h2), .l (h3)])) (if (0 : Int) ≤ t7 ∧ t7 < (16 : Int) then optK (h3[Int.toNat t7]?) (fun x23 => cond (Decidable.decide (x23 ≠ Go.IntKind.wrap Go.IntKind.i64 (Go.IntKind.wrap Go.IntKind.i64 ((0 : Int) - Go.IntKind.wrap Go.IntKind.i64 (Int.tdiv (Go.IntKind.wrap Go.IntKind.i64 (Go.IntKind.wrap Go.IntKind.i64 ((2 : Int) * Go.IntKind.wrap Go.IntKind.i64 ((0 : Int) - x3)) + x2)) (Go.IntKind.wrap Go.IntKind.i64 ((2 : Int) * x2)))) * x2))) (some (2, [.l (h0), .l (h1), .l (h2), .l (h3)])) (cond (Decidable.decide (Go.IntKind.wrap Go.IntKind.i64 (Int.tdiv x2 (2 : Int)) < Go.IntKind.wrap Go.IntKind.i64 (Go.IntKind.wrap Go.IntKind.i64 (Go.IntKind.wrap Go.IntKind.i64 ((0 : Int) - Go.IntKind.wrap Go.IntKind.i64 (Int.tdiv (Go.IntKind.wrap Go.IntKind.i64 (Go.IntKind.wrap Go.IntKind.i64 ((2 : Int) * Go.IntKind.wrap Go.IntKind.i64 ((0 : Int) - x3)) + x2)) (Go.IntKind.wrap Go.IntKind.i64 ((2 : Int) * x2)))) * x2) - x21))) (some (2, [.l (h0), .l (h1), .l (h2), .l (h3)])) (cond (Decidable.decide (Go.IntKind.wrap Go.IntKind.i64 (Go.IntKind.wrap Go.IntKind.i64 (Go.IntKind.wrap Go.IntKind.i64 ((0 : Int) - Go.IntKind.wrap Go.IntKind.i64 (Int.tdiv (Go.IntKind.wrap Go.IntKind.i64 (Go.IntKind.wrap Go.IntKind.i64 ((2 : Int) * Go.IntKind.wrap Go.IntKind.i64 ((0 : Int) - x3)) + x2)) (Go.IntKind.wrap Go.IntKind.i64 ((2 : Int) * x2)))) * x2) - x21) < Go.IntKind.wrap Go.IntKind.i64 ((0 : Int) - Go.IntKind.wrap Go.IntKind.i64 (Int.tdiv x2 (2 : Int))))) (some (2, [.l (h0), .l (h1), .l (h2), .l (h3)])) (if (0 : Int) ≤ Go.IntKind.wrap Go.IntKind.i64 (Int.tdiv t7 (4 : Int)) ∧ Go.IntKind.wrap Go.IntKind.i64 (Int.tdiv t7 (4 : Int)) < (4 : Int) then optK (h1[Int.toNat (Go.IntKind.wrap Go.IntKind.i64 (Int.tdiv t7 (4 : Int)))]?) (fun x24 => altK (g14 (0, [.i (x24)])) [fun r => asI r (fun x25 r => asE r (cond (Decidable.decide (x25 ≠ Go.IntKind.wrap Go.IntKind.i64 (Int.tdiv x2 (2 : Int)))) (some (2, [.l (h0), .l (h1), .l (h2), .l (h3)])) (some (0, [.i (Go.IntKind.wrap Go.IntKind.i64 (t7 + (1 : Int))), .l (h0), .l (h1), .l (h2), .l (h3)]))) none) none] none) (none) else none)))) (none) else none)) (none) else none) (none) else none) (if (0 : Int) ≤ t7 ∧ t7 < (16 : Int) then optK (h0[Int.toNat t7]?) (fun x16 => if (0 : Int) ≤ t7 ∧ t7 < (16 : Int) then optK (h2[Int.toNat t7]?) (fun x17 => cond (Decidable.decide (x17 ≠ Go.IntKind.wrap Go.IntKind.i64 (Int.tdiv (Go.IntKind.wrap Go.IntKind.i64 (Go.IntKind.wrap Go.IntKind.i64 ((2 : Int) * Go.IntKind.wrap Go.IntKind.i64 ((0 : Int) - x3)) + x2)) (Go.IntKind.wrap Go.IntKind.i64 ((2 : Int) * x2))))) (some (2, [.l (h0), .l (h1), .l (h2), .l (h3)])) (if (0 : Int) ≤ t7 ∧ t7 < (16 : Int) then optK (h3[Int.toNat t7]?) (fun x18 => cond (Decidable.decide (x18 ≠ Go.IntKind.wrap Go.IntKind.i64 (Go.IntKind.wrap Go.IntKind.i64 (Int.tdiv (Go.IntKind.wrap Go.IntKind.i64 (Go.IntKind.wrap Go.IntKind.i64 ((2 : Int) * Go.IntKind.wrap Go.IntKind.i64 ((0 : Int) - x3)) + x2)) (Go.IntKind.wrap Go.IntKind.i64 ((2 : Int) * x2))) * x2))) (some (2, [.l (h0), .l (h1), .l (h2), .l (h3)])) (cond (Decidable.decide (Go.IntKind.wrap Go.IntKind.i64 (Int.tdiv x2 (2 : Int)) < Go.IntKind.wrap Go.IntKind.i64 (Go.IntKind.wrap Go.IntKind.i64 (Go.IntKind.wrap Go.IntKind.i64 (Int.tdiv (Go.IntKind.wrap Go.IntKind.i64 (Go.IntKind.wrap Go.IntKind.i64 ((2 : Int) * Go.IntKind.wrap Go.IntKind.i64 ((0 : Int) - x3)) + x2)) (Go.IntKind.wrap Go.IntKind.i64 ((2 : Int) * x2))) * x2) - x16))) (some (2, [.l (h0), .l (h1), .l (h2), .l (h3)])) (cond (Decidable.decide (Go.IntKind.wrap Go.IntKind.i64 (Go.IntKind.wrap Go.IntKind.i64 (Go.IntKind.wrap Go.IntKind.i64 (Int.tdiv (Go.IntKind.wrap Go.IntKind.i64 (Go.IntKind.wrap Go.IntKind.i64 ((2 : Int) * Go.IntKind.wrap Go.IntKind.i64 ((0 : Int) - x3)) + x2)) (Go.IntKind.wrap Go.IntKind.i64 ((2 : Int) * x2))) * x2) - x16) < Go.IntKind.wrap Go.IntKind.i64 ((0 : Int) - Go.IntKind.wrap Go.IntKind.i64 (Int.tdiv x2 (2 : Int))))) (some (2, [.l (h0), .l (h1), .l (h2), .l (h3)])) (if (0 : Int) ≤ Go.IntKind.wrap Go.IntKind.i64 (Int.tdiv t7 (4 : Int)) ∧ Go.IntKind.wrap Go.IntKind.i64 (Int.tdiv t7 (4 : Int)) < (4 : Int) then optK (h1[Int.toNat (Go.IntKind.wrap Go.IntKind.i64 (Int.tdiv t7 (4 : Int)))]?) (fun x19 => altK (g14 (0, [.i (x19)])) [fun r => asI r (fun x20 r => asE r (cond (Decidable.decide (x20 ≠ Go.IntKind.wrap Go.IntKind.i64 (Int.tdiv x2 (2 : Int)))) (some (2, [.l (h0), .l (h1), .l (h2), .l (h3)])) (some (0, [.i (Go.IntKind.wrap Go.IntKind.i64 (t7 + (1 : Int))), .l (h0), .l (h1), .l (h2), .l (h3)]))) none) none] none) (none) else none)))) (none) else none)) (none) else none) (none) else none)) (none) else none) (if Go.IntKind.wrap Go.IntKind.i64 ((2 : Int) * x2) = (0 : Int) then none else if (0 : Int) ≤ t7 ∧ t7 < (16 : Int) then optK (h0[Int.toNat t7]?) (fun x4 => cond (Decidable.decide (x4 < (0 : Int))) (if (0 : Int) ≤ t7 ∧ t7 < (16 : Int) then optK (h0[Int.toNat t7]?) (fun x10 => if (0 : Int) ≤ t7 ∧ t7 < (16 : Int) then optK (h2[Int.toNat t7]?) (fun x11 => cond (Decidable.decide (x11 ≠ Go.IntKind.wrap Go.IntKind.i64 ((0 : Int) - Go.IntKind.wrap Go.IntKind.i64 (Int.tdiv (Go.IntKind.wrap Go.IntKind.i64 (Go.IntKind.wrap Go.IntKind.i64 ((2 : Int) * x3) + x2)) (Go.IntKind.wrap Go.IntKind.i64 ((2 : Int) * x2)))))) (some (2, [.l (h0), .l (h1), .l (h2), .l (h3)])) (if (0 : Int) ≤ t7 ∧ t7 < (16 : Int) then optK (h3[Int.toNat t7]?) (fun x12 => cond (Decidable.decide (x12 ≠ Go.IntKind.wrap Go.IntKind.i64 (Go.IntKind.wrap Go.IntKind.i64 ((0 : Int) - Go.IntKind.wrap Go.IntKind.i64 (Int.tdiv (Go.IntKind.wrap Go.IntKind.i64 (Go.IntKind.wrap Go.IntKind.i64 ((2 : Int) * x3) + x2)) (Go.IntKind.wrap Go.IntKind.i64 ((2 : Int) * x2)))) * x2))) (some (2, [.l (h0), .l (h1), .l (h2), .l (h3)])) (cond (Decidable.decide (Go.IntKind.wrap Go.IntKind.i64 (Int.tdiv x2 (2 : Int)) < Go.IntKind.wrap Go.IntKind.i64 (Go.IntKind.wrap Go.IntKind.i64 (Go.IntKind.wrap Go.IntKind.i64 ((0 : Int) - Go.IntKind.wrap Go.IntKind.i64 (Int.tdiv (Go.IntKind.wrap Go.IntKind.i64 (Go.IntKind.wrap Go.IntKind.i64 ((2 : Int) * x3) + x2)) (Go.IntKind.wrap Go.IntKind.i64 ((2 : Int) * x2)))) * x2) - x10))) (some (2, [.l (h0), .l (h1), .l (h2), .l (h3)])) (cond (Decidable.decide (Go.IntKind.wrap Go.IntKind.i64 (Go.IntKind.wrap Go.IntKind.i64 (Go.IntKind.wrap Go.IntKind.i64 ((0 : Int) - Go.IntKind.wrap Go.IntKind.i64 (Int.tdiv (Go.IntKind.wrap Go.IntKind.i64 (Go.IntKind.wrap Go.IntKind.i64 ((2 : Int) * x3) + x2)) (Go.IntKind.wrap Go.IntKind.i64 ((2 : Int) * x2)))) * x2) - x10) < Go.IntKind.wrap Go.IntKind.i64 ((0 : Int) - Go.IntKind.wrap Go.IntKind.i64 (Int.tdiv x2 (2 : Int))))) (some (2, [.l (h0), .l (h1), .l (h2), .l (h3)])) (if (0 : Int) ≤ Go.IntKind.wrap Go.IntKind.i64 (Int.tdiv t7 (4 : Int)) ∧ Go.IntKind.wrap Go.IntKind.i64 (Int.tdiv t7 (4 : Int)) < (4 : Int) then optK (h1[Int.toNat (Go.IntKind.wrap Go.IntKind.i64 (Int.tdiv t7 (4 : Int)))]?) (fun x13 => altK (g14 (0, [.i (x13)])) [fun r => asI r (fun x14 r => asE r (cond (Decidable.decide (x14 ≠ Go.IntKind.wrap Go.IntKind.i64 (Int.tdiv x2 (2 : Int)))) (some (2, [.l (h0), .l (h1), .l (h2), .l (h3)])) (some (0, [.i (Go.IntKind.wrap Go.IntKind.i64 (t7 + (1 : Int))), .l (h0), .l (h1), .l (h2), .l (h3)]))) none) none] none) (none) else none)))) (none) else none)) (none) else none) (none) else none) (if (0 : Int) ≤ t7 ∧ t7 < (16 : Int) then optK (h0[Int.toNat t7]?) (fun x5 => if (0 : Int) ≤ t7 ∧ t7 < (16 : Int) then optK (h2[Int.toNat t7]?) (fun x6 => cond (Decidable.decide (x6 ≠ Go.IntKind.wrap Go.IntKind.i64 (Int.tdiv (Go.IntKind.wrap Go.IntKind.i64 (Go.IntKind.wrap Go.IntKind.i64 ((2 : Int) * x3) + x2)) (Go.IntKind.wrap Go.IntKind.i64 ((2 : Int) * x2))))) (some (2, [.l (h0), .l (h1), .l (h2), .l (h3)])) (if (0 : Int) ≤ t7 ∧ t7 < (16 : Int) then optK (h3[Int.toNat t7]?) (fun x7 => cond (Decidable.decide (x7 ≠ Go.IntKind.wrap Go.IntKind.i64 (Go.IntKind.wrap Go.IntKind.i64 (Int.tdiv (Go.IntKind.wrap Go.IntKind.i64 (Go.IntKind.wrap Go.IntKind.i64 ((2 : Int) * x3) + x2)) (Go.IntKind.wrap Go.IntKind.i64 ((2 : Int) * x2))) * x2))) (some (2, [.l (h0), .l (h1), .l (h2), .l (h3)])) (cond (Decidable.decide (Go.IntKind.wrap Go.IntKind.i64 (Int.tdiv x2 (2 : Int)) < Go.IntKind.wrap Go.IntKind.i64 (Go.IntKind.wrap Go.IntKind.i64 (Go.IntKind.wrap Go.IntKind.i64 (Int.tdiv (Go.IntKind.wrap Go.IntKind.i64 (Go.IntKind.wrap Go.IntKind.i64 ((2 : Int) * x3) + x2)) (Go.IntKind.wrap Go.IntKind.i64 ((2 : Int) * x2))) * x2) - x5))) (some (2, [.l (h0), .l (h1), .l (h2), .l (h3)])) (cond (Decidable.decide (Go.IntKind.wrap Go.IntKind.i64 (Go.IntKind.wrap Go.IntKind.i64 (Go.IntKind.wrap Go.IntKind.i64 (Int.tdiv (Go.IntKind.wrap Go.IntKind.i64 (Go.IntKind.wrap Go.IntKind.i64 ((2 : Int) * x3) + x2)) (Go.IntKind.wrap Go.IntKind.i64 ((2 : Int) * x2))) * x2) - x5) < Go.IntKind.wrap Go.IntKind.i64 ((0 : Int) - Go.IntKind.wrap Go.IntKind.i64 (Int.tdiv x2 (2 : Int))))) (some (2, [.l (h0), .l (h1), .l (h2), .l (h3)])) (if (0 : Int) ≤ Go.IntKind.wrap Go.IntKind.i64 (Int.tdiv t7 (4 : Int)) ∧ Go.IntKind.wrap Go.IntKind.i64 (Int.tdiv t7 (4 : Int)) < (4 : Int) then optK (h1[Int.toNat (Go.IntKind.wrap Go.IntKind.i64 (Int.tdiv t7 (4 : Int)))]?) (fun x8 => altK (g14 (0, [.i (x8)])) [fun r => asI r (fun x9 r => asE r (cond (Decidable.decide (x9 ≠ Go.IntKind.wrap Go.IntKind.i64 (Int.tdiv x2 (2 : Int)))) (some (2, [.l (h0), .l (h1), .l (h2), .l (h3)])) (some (0, [.i (Go.IntKind.wrap Go.IntKind.i64 (t7 + (1 : Int))), .l (h0), .l (h1), .l (h2), .l (h3)]))) none) none] none) (none) else none)))) (none) else none)) (none) else none) (none) else none)) (none) else none)) (none) else none) none) none] none) (none) else none) (some (1, [.l (h0), .l (h1), .l (h2), .l (h3)]))
def f4_0 (s : Nat × List Leaf) : Option (Nat × List Leaf) := match s.1 with
  | 0 => let r := s.2; asI r (fun t7 r => asL r (fun h0 r => asL r (fun h1 r => asL r (fun h2 r => asL r (fun h3 r => asE r (f4_0_0 t7 h0 h1 h2 h3) none) none) none) none) none) none
  | _ => none
def L4_0 (s : Nat × List Leaf) : Option (Nat × List Leaf) := loopL 1 f4_0 s
def orc4_0 : Orc := ⟨in4_0, out4_0, L4_0⟩
def os4_0 : List Orc := []
theorem snd4_0 (n : Nat) : OrcSound (evF tab (n + 20)) (.loop l4_22) orc4_0 :=
  loop_sound (b := kc4_0) (OK := okOf os4_0) (ck4 n) (show OrcsOk (okOf os4_0) (evF tab (n + 20)) kc4_0 from ⟨⟨⟨trivial, ⟨trivial, ⟨trivial, trivial⟩⟩⟩, ⟨⟨trivial, ⟨trivial, ⟨⟨trivial, ⟨trivial, trivial⟩⟩, ⟨trivial, ⟨⟨trivial, ⟨trivial, trivial⟩⟩, ⟨trivial, ⟨trivial, ⟨⟨trivial, ⟨trivial, trivial⟩⟩, trivial⟩⟩⟩⟩⟩⟩⟩⟩, trivial⟩⟩, trivial⟩) (ins := in4_0) (outs := out4_0) (f := f4_0) (by kernel_rfl)
    (all_ins (Q := fun i sh => ∀ ls, fillS sh ls (fun st => evK (ckOf es4) (okOf os4_0) kc4_0 st (findOut (in4_0.map (SX.normal, ·) ++ out4_0) 0) none) none = f4_0 (i, ls)) (l := in4_0) ⟨fun ls => by kernel_rfl, trivial⟩)
def kc4 : KC := (.seq (.reg r4_0) (.seq (.reg r4_1) (.seq (.reg r4_2) (.seq (.seq (.reg r4_3) (.cond (.t 22) (.seq (.reg r4_4) (.seq (.kill [0, 1, 2, 3, 5, 6, 7, 8, 9, 10, 11, 22, 25, 39, 42, 54, 67, 113]) .ret)) .skip)) (.seq (.seq (.reg r4_5) (.cond (.t 25) (.seq (.reg r4_6) (.seq (.kill [0, 1, 2, 3, 5, 6, 7, 8, 9, 10, 11, 22, 25, 39, 42, 54, 67, 113]) .ret)) .skip)) (.seq (.seq (.reg r4_7) (.cond (.t 39) (.seq (.reg r4_8) (.seq (.kill [0, 1, 2, 3, 5, 6, 7, 8, 9, 10, 11, 22, 25, 39, 42, 54, 67, 113]) .ret)) .skip)) (.seq (.seq (.reg r4_9) (.block 0 (.seq (.kill [0, 1, 4, 8, 9, 10, 11, 22, 25, 39, 42, 54, 67, 113]) (.orc 0 (.loop l4_22))))) (.seq (.reg r4_23) (.seq (.kill [0, 1, 2, 3, 5, 6, 7, 8, 9, 10, 11, 22, 25, 39, 42, 54, 67, 113]) .ret)))))))))
def ain4 : List APat := [⟨[(.ints .i64), (.ints .i64)], []⟩]
def aout4 : List RPat := [⟨.bool, [], []⟩]
def g4_0 (a0 : List Int) (a1 : List Int) : Option (Nat × List Leaf) :=
  if (16 : Nat) ≤ List.length a0 then if (4 : Nat) ≤ List.length a1 then altK (g11 (0, [.l (List.take (16 : Nat) a0), .l (List.take (4 : Nat) a1)])) [fun r => asL r (fun x1 r => asE r (if List.length x1 = (16 : Nat) then if (0 : Nat) + List.length x1 ≤ (16 : Nat) then if (16 : Nat) ≤ List.length (x1 ++ List.drop ((0 : Nat) + List.length x1) [(0 : Int), (0 : Int), (0 : Int), (0 : Int), (0 : Int), (0 : Int), (0 : Int), (0 : Int), (0 : Int), (0 : Int), (0 : Int), (0 : Int), (0 : Int), (0 : Int), (0 : Int), (0 : Int)]) then if (4 : Nat) ≤ List.length a1 then altK (g8 (0, [.l (List.take (16 : Nat) (x1 ++ List.drop ((0 : Nat) + List.length x1) [(0 : Int), (0 : Int), (0 : Int), (0 : Int), (0 : Int), (0 : Int), (0 : Int), (0 : Int), (0 : Int), (0 : Int), (0 : Int), (0 : Int), (0 : Int), (0 : Int), (0 : Int), (0 : Int)])), .l (List.take (4 : Nat) a1)])) [fun r => asL r (fun x2 r => asE r (if List.length x2 = (16 : Nat) then if (0 : Nat) + List.length x2 ≤ (16 : Nat) then if (4 : Nat) ≤ List.length a1 then altK (g12 (0, [.l (List.take (4 : Nat) a1)])) [fun r => asB r (fun x3 r => asE r (if (4 : Nat) ≤ List.length a1 then altK (g9 (0, [.l (List.take (4 : Nat) a1)])) [fun r => asB r (fun x4 r => asE r (cond (Decidable.decide (x3 ≠ x4)) (some (0, [.b (Bool.false)])) (if (4 : Nat) ≤ List.length a1 then altK (g9 (0, [.l (List.take (4 : Nat) a1)])) [fun r => asB r (fun x5 r => asE r (cond (!x5) (if (16 : Nat) ≤ List.length (x1 ++ List.drop ((0 : Nat) + List.length x1) [(0 : Int), (0 : Int), (0 : Int), (0 : Int), (0 : Int), (0 : Int), (0 : Int), (0 : Int), (0 : Int), (0 : Int), (0 : Int), (0 : Int), (0 : Int), (0 : Int), (0 : Int), (0 : Int)]) then if List.length (List.take (16 : Nat) (x1 ++ List.drop ((0 : Nat) + List.length x1) [(0 : Int), (0 : Int), (0 : Int), (0 : Int), (0 : Int), (0 : Int), (0 : Int), (0 : Int), (0 : Int), (0 : Int), (0 : Int), (0 : Int), (0 : Int), (0 : Int), (0 : Int), (0 : Int)])) = (16 : Nat) then cond (Decidable.decide (List.take (16 : Nat) (x1 ++ List.drop ((0 : Nat) + List.length x1) [(0 : Int), (0 : Int), (0 : Int), (0 : Int), (0 : Int), (0 : Int), (0 : Int), (0 : Int), (0 : Int), (0 : Int), (0 : Int), (0 : Int), (0 : Int), (0 : Int), (0 : Int), (0 : Int)]) = [(0 : Int), (0 : Int), (0 : Int), (0 : Int), (0 : Int), (0 : Int), (0 : Int), (0 : Int), (0 : Int), (0 : Int), (0 : Int), (0 : Int), (0 : Int), (0 : Int), (0 : Int), (0 : Int)])) (if (16 : Nat) ≤ List.length (x2 ++ List.drop ((0 : Nat) + List.length x2) [(0 : Int), (0 : Int), (0 : Int), (0 : Int), (0 : Int), (0 : Int), (0 : Int), (0 : Int), (0 : Int), (0 : Int), (0 : Int), (0 : Int), (0 : Int), (0 : Int), (0 : Int), (0 : Int)]) then if List.length (List.take (16 : Nat) (x2 ++ List.drop ((0 : Nat) + List.length x2) [(0 : Int), (0 : Int), (0 : Int), (0 : Int), (0 : Int), (0 : Int), (0 : Int), (0 : Int), (0 : Int), (0 : Int), (0 : Int), (0 : Int), (0 : Int), (0 : Int), (0 : Int), (0 : Int)])) = (16 : Nat) then cond (Decidable.decide (List.take (16 : Nat) (x2 ++ List.drop ((0 : Nat) + List.length x2) [(0 : Int), (0 : Int), (0 : Int), (0 : Int), (0 : Int), (0 : Int), (0 : Int), (0 : Int), (0 : Int), (0 : Int), (0 : Int), (0 : Int), (0 : Int), (0 : Int), (0 : Int), (0 : Int)]) = [(0 : Int), (0 : Int), (0 : Int), (0 : Int), (0 : Int), (0 : Int), (0 : Int), (0 : Int), (0 : Int), (0 : Int), (0 : Int), (0 : Int), (0 : Int), (0 : Int), (0 : Int), (0 : Int)])) (altK (awakeL (0, [])) [fun r => asB r (fun x49 r => asE r (some (0, [.b (x49)])) none) none] none) (some (0, [.b (Bool.false)])) else none else none) (some (0, [.b (Bool.false)])) else none else none) (if (16 : Nat) ≤ List.length a0 then altK (g13 (0, [.l (List.take (16 : Nat) a0)])) [fun r => asB r (fun x6 r => asE r (cond (!x6) (altK (awakeL (0, [])) [fun r => asB r (fun x48 r => asE r (some (0, [.b (x48)])) none) none] none) (altK (L4_0 (0, [.i ((0 : Int)), .l (a0), .l (a1), .l (x1 ++ List.drop ((0 : Nat) + List.length x1) [(0 : Int), (0 : Int), (0 : Int), (0 : Int), (0 : Int), (0 : Int), (0 : Int), (0 : Int), (0 : Int), (0 : Int), (0 : Int), (0 : Int), (0 : Int), (0 : Int), (0 : Int), (0 : Int)]), .l (x2 ++ List.drop ((0 : Nat) + List.length x2) [(0 : Int), (0 : Int), (0 : Int), (0 : Int), (0 : Int), (0 : Int), (0 : Int), (0 : Int), (0 : Int), (0 : Int), (0 : Int), (0 : Int), (0 : Int), (0 : Int), (0 : Int), (0 : Int)])])) [fun r => asL r (fun x26h0 r => asL r (fun x26h1 r => asL r (fun x26h2 r => asL r (fun x26h3 r => asE r (altK (awakeL (0, [])) [fun r => asB r (fun x27 r => asE r (some (0, [.b (x27)])) none) none] none) none) none) none) none) none, fun r => asL r (fun x47h0 r => asL r (fun x47h1 r => asL r (fun x47h2 r => asL r (fun x47h3 r => asE r (some (0, [.b (Bool.false)])) none) none) none) none) none] none)) none) none] none else none)) none) none] none else none)) none) none] none else none) none) none] none else none else none else none) none) none] none else none else none else none else none) none) none] none else none else none
def g4 (s : Nat × List Leaf) : Option (Nat × List Leaf) := match s.1 with
  | 0 => let r := s.2; asL r (fun a0 r => asL r (fun a1 r => asE r (g4_0 a0 a1) none) none) none
  | _ => none
def ent4 : Ent := ⟨ain4, aout4, g4⟩
def os4 : List Orc := [orc4_0]
theorem ok4 (n : Nat) : EntSound (evF tab (n + 21)) 4 ent4 :=
  fn_sound (n := n + 20) (ck4 n) (OK := okOf os4) (body := kc4) (show OrcsOk (okOf os4) (evF tab (n + 20)) kc4 from ⟨trivial, ⟨trivial, ⟨trivial, ⟨⟨trivial, ⟨⟨trivial, ⟨trivial, trivial⟩⟩, trivial⟩⟩, ⟨⟨trivial, ⟨⟨trivial, ⟨trivial, trivial⟩⟩, trivial⟩⟩, ⟨⟨trivial, ⟨⟨trivial, ⟨trivial, trivial⟩⟩, trivial⟩⟩, ⟨⟨trivial, ⟨trivial, (okOf_ok (os := os4) (i := 0) (o := orc4_0) rfl (snd4_0 n))⟩⟩, ⟨trivial, ⟨trivial, trivial⟩⟩⟩⟩⟩⟩⟩⟩⟩) t4 (by kernel_rfl)
    (all_ins (Q := fun i sh => ∀ ls, fillA sh ls (fun args h => fnK (ckOf es4) (okOf os4) sf4 kc4 args h (findRes aout4 0) none) none = g4 (i, ls)) (l := ain4) ⟨fun ls => by kernel_rfl, trivial⟩)
/-! function 3 -/
def es3 : List (FuncId × Ent) := [(7, awakeE), (8, ent8), (9, ent9), (10, ent10)]
theorem ck3 (n : Nat) : CallKOk (ckOf es3) (evF tab (n + 20)) :=
  ckOf_cons (ok7 (n + 0)) (ckOf_cons (ok8 (n + 18)) (ckOf_cons (ok9 (n + 19)) (ckOf_cons (ok10 (n + 19)) (ckOf_nil))))
def kc3_0 : KC := (.seq (.seq (.seq (.reg r3_2) (.cond (.t 10) .skip (.seq (.kill [0, 1, 4, 5, 6, 7, 8, 10, 22, 28, 32, 46]) (.exit 0)))) (.seq (.block 1 (.seq (.reg r3_3) (.cond (.t 22) (.seq (.reg r3_4) (.seq (.kill [0, 1, 2, 3, 5, 6, 7, 8, 10, 22, 28, 32, 46]) .ret)) .skip))) (.reg r3_5))) (.kill [0, 1, 4, 6, 7, 8, 10, 22, 28, 32, 46]))
def in3_0 : List SPat := [⟨[(0, .unk), (1, .unk), (2, (.ptr 0 (.c 0))), (3, (.ptr 1 (.c 0))), (4, .unk), (5, (.int .i64)), (6, .unk), (7, .unk), (8, .unk), (10, .unk), (22, .unk), (28, .unk), (32, .unk), (46, .unk)], [(true, (.ints .i64)), (true, (.ints .i64))], [], 0⟩]
def out3_0 : List (SX × SPat) := [((.exit 0), ⟨[(0, .unk), (1, .unk), (2, (.ptr 0 (.c 0))), (3, (.ptr 1 (.c 0))), (4, .unk), (5, .unk), (6, .unk), (7, .unk), (8, .unk), (10, .unk), (22, .unk), (28, .unk), (32, .unk), (46, .unk)], [(true, (.ints .i64)), (true, (.ints .i64))], [], 0⟩), (.ret, ⟨[(0, .unk), (1, .unk), (2, .unk), (3, .unk), (4, .bool), (5, .unk), (6, .unk), (7, .unk), (8, .unk), (10, .unk), (22, .unk), (28, .unk), (32, .unk), (46, .unk)], [(true, (.ints .i64)), (true, (.ints .i64))], [], 0⟩)]
def f3_0_0 (t5 : Int) (h0 : List Int) (h1 : List Int) : Option (Nat × List Leaf) :=
  cond (Decidable.decide (t5 < (16 : Int))) (if (0 : Int) ≤ t5 ∧ t5 < (16 : Int) then optK (h0[Int.toNat t5]?) (fun x1 => cond (Decidable.decide (x1 < (-4294967296 : Int))) (altK (awakeL (0, [])) [fun r => asB r (fun x4 r => asE r (some (2, [.b (x4), .l (h0), .l (h1)])) none) none] none) (if (0 : Int) ≤ t5 ∧ t5 < (16 : Int) then optK (h0[Int.toNat t5]?) (fun x2 => cond (Decidable.decide ((4294967296 : Int) < x2)) (altK (awakeL (0, [])) [fun r => asB r (fun x3 r => asE r (some (2, [.b (x3), .l (h0), .l (h1)])) none) none] none) (some (0, [.i (Go.IntKind.wrap Go.IntKind.i64 (t5 + (1 : Int))), .l (h0), .l (h1)]))) (none) else none)) (none) else none) (some (1, [.l (h0), .l (h1)]))
def f3_0 (s : Nat × List Leaf) : Option (Nat × List Leaf) := match s.1 with
  | 0 => let r := s.2; asI r (fun t5 r => asL r (fun h0 r => asL r (fun h1 r => asE r (f3_0_0 t5 h0 h1) none) none) none) none
  | _ => none
def L3_0 (s : Nat × List Leaf) : Option (Nat × List Leaf) := loopL 1 f3_0 s
def orc3_0 : Orc := ⟨in3_0, out3_0, L3_0⟩
def os3_0 : List Orc := []
theorem snd3_0 (n : Nat) : OrcSound (evF tab (n + 20)) (.loop l3_6) orc3_0 :=
  loop_sound (b := kc3_0) (OK := okOf os3_0) (ck3 n) (show OrcsOk (okOf os3_0) (evF tab (n + 20)) kc3_0 from ⟨⟨⟨trivial, ⟨trivial, ⟨trivial, trivial⟩⟩⟩, ⟨⟨trivial, ⟨⟨trivial, ⟨trivial, trivial⟩⟩, trivial⟩⟩, trivial⟩⟩, trivial⟩) (ins := in3_0) (outs := out3_0) (f := f3_0) (by kernel_rfl)
    (all_ins (Q := fun i sh => ∀ ls, fillS sh ls (fun st => evK (ckOf es3) (okOf os3_0) kc3_0 st (findOut (in3_0.map (SX.normal, ·) ++ out3_0) 0) none) none = f3_0 (i, ls)) (l := in3_0) ⟨fun ls => by kernel_rfl, trivial⟩)
def kc3_1 : KC := (.seq (.seq (.seq (.reg r3_9) (.cond (.t 28) .skip (.seq (.kill [0, 1, 2, 3, 4, 5, 6, 7, 8, 10, 22, 28, 32, 46]) (.exit 2)))) (.seq (.block 3 (.seq (.reg r3_10) (.seq (.seq (.reg r3_11) (.cond (.t 32) (.reg r3_12) .skip)) (.seq (.reg r3_13) (.cond (.t 46) (.seq (.reg r3_14) (.seq (.kill [0, 1, 2, 3, 5, 6, 7, 8, 10, 22, 28, 32, 46]) .ret)) .skip))))) (.reg r3_15))) (.kill [0, 1, 4, 5, 8, 10, 22, 28, 32, 46]))
def in3_1 : List SPat := [⟨[(0, .unk), (1, .unk), (2, (.ptr 0 (.c 0))), (3, (.ptr 1 (.c 0))), (4, .unk), (5, .unk), (6, (.ptr 2 (.c 0))), (7, (.int .i64)), (8, .unk), (10, .unk), (22, .unk), (28, .unk), (32, .unk), (46, .unk)], [(true, (.ints .i64)), (true, (.ints .i64)), (true, (.ints .i64))], [], 0⟩]
def out3_1 : List (SX × SPat) := [((.exit 2), ⟨[(0, .unk), (1, .unk), (2, .unk), (3, .unk), (4, .unk), (5, .unk), (6, .unk), (7, .unk), (8, .unk), (10, .unk), (22, .unk), (28, .unk), (32, .unk), (46, .unk)], [(true, (.ints .i64)), (true, (.ints .i64)), (true, (.ints .i64))], [], 0⟩), (.ret, ⟨[(0, .unk), (1, .unk), (2, .unk), (3, .unk), (4, (.cbool false)), (5, .unk), (6, .unk), (7, .unk), (8, .unk), (10, .unk), (22, .unk), (28, .unk), (32, .unk), (46, .unk)], [(true, (.ints .i64)), (true, (.ints .i64)), (true, (.ints .i64))], [], 0⟩)]
def f3_1_0 (t7 : Int) (h0 : List Int) (h1 : List Int) (h2 : List Int) : Option (Nat × List Leaf) :=
  cond (Decidable.decide (t7 < (16 : Int))) (if (4 : Nat) ≤ List.length h1 then altK (g9 (0, [.l (List.take (4 : Nat) h1)])) [fun r => asB r (fun x1 r => asE r (cond (x1) (if (0 : Int) ≤ t7 ∧ t7 < (16 : Int) then optK (h0[Int.toNat t7]?) (fun x3 => if (0 : Int) ≤ Go.IntKind.wrap Go.IntKind.i64 (Int.tdiv t7 (4 : Int)) ∧ Go.IntKind.wrap Go.IntKind.i64 (Int.tdiv t7 (4 : Int)) < (4 : Int) then optK (h1[Int.toNat (Go.IntKind.wrap Go.IntKind.i64 (Int.tdiv t7 (4 : Int)))]?) (fun x4 => altK (g10 (0, [.i (x4)])) [fun r => asI r (fun x5 r => asE r (if (0 : Int) ≤ t7 ∧ t7 < (16 : Int) then optK (h2[Int.toNat t7]?) (fun x6 => cond (Decidable.decide (x6 ≠ Go.IntKind.wrap Go.IntKind.i64 (x3 * x5))) (some (2, [.l (h0), .l (h1), .l (h2)])) (some (0, [.i (Go.IntKind.wrap Go.IntKind.i64 (t7 + (1 : Int))), .l (h0), .l (h1), .l (h2)]))) (none) else none) none) none] none) (none) else none) (none) else none) (if (0 : Int) ≤ t7 ∧ t7 < (16 : Int) then optK (h2[Int.toNat t7]?) (fun x2 => cond (Decidable.decide (x2 ≠ (0 : Int))) (some (2, [.l (h0), .l (h1), .l (h2)])) (some (0, [.i (Go.IntKind.wrap Go.IntKind.i64 (t7 + (1 : Int))), .l (h0), .l (h1), .l (h2)]))) (none) else none)) none) none] none else none) (some (1, [.l (h0), .l (h1), .l (h2)]))
def f3_1 (s : Nat × List Leaf) : Option (Nat × List Leaf) := match s.1 with
  | 0 => let r := s.2; asI r (fun t7 r => asL r (fun h0 r => asL r (fun h1 r => asL r (fun h2 r => asE r (f3_1_0 t7 h0 h1 h2) none) none) none) none) none
  | _ => none
def L3_1 (s : Nat × List Leaf) : Option (Nat × List Leaf) := loopL 1 f3_1 s
def orc3_1 : Orc := ⟨in3_1, out3_1, L3_1⟩
def os3_1 : List Orc := [orc3_0]
theorem snd3_1 (n : Nat) : OrcSound (evF tab (n + 20)) (.loop l3_16) orc3_1 :=
  loop_sound (b := kc3_1) (OK := okOf os3_1) (ck3 n) (show OrcsOk (okOf os3_1) (evF tab (n + 20)) kc3_1 from ⟨⟨⟨trivial, ⟨trivial, ⟨trivial, trivial⟩⟩⟩, ⟨⟨trivial, ⟨⟨trivial, ⟨trivial, trivial⟩⟩, ⟨trivial, ⟨⟨trivial, ⟨trivial, trivial⟩⟩, trivial⟩⟩⟩⟩, trivial⟩⟩, trivial⟩) (ins := in3_1) (outs := out3_1) (f := f3_1) (by kernel_rfl)
    (all_ins (Q := fun i sh => ∀ ls, fillS sh ls (fun st => evK (ckOf es3) (okOf os3_1) kc3_1 st (findOut (in3_1.map (SX.normal, ·) ++ out3_1) 0) none) none = f3_1 (i, ls)) (l := in3_1) ⟨fun ls => by kernel_rfl, trivial⟩)
def kc3 : KC := (.seq (.reg r3_0) (.seq (.seq (.reg r3_1) (.block 0 (.seq (.kill [0, 1, 4, 6, 7, 8, 10, 22, 28, 32, 46]) (.orc 0 (.loop l3_6))))) (.seq (.reg r3_7) (.seq (.seq (.reg r3_8) (.block 2 (.seq (.kill [0, 1, 4, 5, 8, 10, 22, 28, 32, 46]) (.orc 1 (.loop l3_16))))) (.seq (.reg r3_17) (.seq (.kill [0, 1, 2, 3, 5, 6, 7, 8, 10, 22, 28, 32, 46]) .ret))))))
def ain3 : List APat := [⟨[(.ints .i64), (.ints .i64)], []⟩]
def aout3 : List RPat := [⟨.bool, [], []⟩]
def g3_0 (a0 : List Int) (a1 : List Int) : Option (Nat × List Leaf) :=
  altK (L3_0 (0, [.i ((0 : Int)), .l (a0), .l (a1)])) [fun r => asL r (fun x15h0 r => asL r (fun x15h1 r => asE r (if (16 : Nat) ≤ List.length x15h0 then if (4 : Nat) ≤ List.length x15h1 then altK (g8 (0, [.l (List.take (16 : Nat) x15h0), .l (List.take (4 : Nat) x15h1)])) [fun r => asL r (fun x16 r => asE r (if List.length x16 = (16 : Nat) then if (0 : Nat) + List.length x16 ≤ (16 : Nat) then altK (L3_1 (0, [.i ((0 : Int)), .l (x15h0), .l (x15h1), .l (x16 ++ List.drop ((0 : Nat) + List.length x16) [(0 : Int), (0 : Int), (0 : Int), (0 : Int), (0 : Int), (0 : Int), (0 : Int), (0 : Int), (0 : Int), (0 : Int), (0 : Int), (0 : Int), (0 : Int), (0 : Int), (0 : Int), (0 : Int)])])) [fun r => asL r (fun x31h0 r => asL r (fun x31h1 r => asL r (fun x31h2 r => asE r (altK (awakeL (0, [])) [fun r => asB r (fun x32 r => asE r (some (0, [.b (x32)])) none) none] none) none) none) none) none, fun r => asL r (fun x47h0 r => asL r (fun x47h1 r => asL r (fun x47h2 r => asE r (some (0, [.b (Bool.false)])) none) none) none) none] none else none else none) none) none] none else none else none) none) none) none, fun r => asB r (fun x52 r => asL r (fun x62h0 r => asL r (fun x62h1 r => asE r (some (0, [.b (x52)])) none) none) none) none] none
def g3 (s : Nat × List Leaf) : Option (Nat × List Leaf) := match s.1 with
  | 0 => let r := s.2; asL r (fun a0 r => asL r (fun a1 r => asE r (g3_0 a0 a1) none) none) none
  | _ => none
def ent3 : Ent := ⟨ain3, aout3, g3⟩
def os3 : List Orc := [orc3_0, orc3_1]
theorem ok3 (n : Nat) : EntSound (evF tab (n + 21)) 3 ent3 :=
  fn_sound (n := n + 20) (ck3 n) (OK := okOf os3) (body := kc3) (show OrcsOk (okOf os3) (evF tab (n + 20)) kc3 from ⟨trivial, ⟨⟨trivial, ⟨trivial, (okOf_ok (os := os3) (i := 0) (o := orc3_0) rfl (snd3_0 n))⟩⟩, ⟨trivial, ⟨⟨trivial, ⟨trivial, (okOf_ok (os := os3) (i := 1) (o := orc3_1) rfl (snd3_1 n))⟩⟩, ⟨trivial, ⟨trivial, trivial⟩⟩⟩⟩⟩⟩) t3 (by kernel_rfl)
    (all_ins (Q := fun i sh => ∀ ls, fillA sh ls (fun args h => fnK (ckOf es3) (okOf os3) sf3 kc3 args h (findRes aout3 0) none) none = g3 (i, ls)) (l := ain3) ⟨fun ls => by kernel_rfl, trivial⟩)
/-! function 5 -/
def es5 : List (FuncId × Ent) := [(15, ent15), (17, ent17), (7, awakeE), (16, ent16)]
theorem ck5 (n : Nat) : CallKOk (ckOf es5) (evF tab (n + 20)) :=
  ckOf_cons (ok15 (n + 18)) (ckOf_cons (ok17 (n + 19)) (ckOf_cons (ok7 (n + 0)) (ckOf_cons (ok16 (n + 19)) (ckOf_nil))))
def kc5_0 : KC := (.seq (.seq (.seq (.reg r5_7) (.cond (.t 20) .skip (.seq (.kill [0, 2, 7, 11, 20, 28, 37]) (.exit 2)))) (.seq (.block 3 (.seq (.reg r5_8) (.cond (.t 28) (.reg r5_9) .skip))) (.reg r5_10))) (.kill [0, 2, 11, 20, 28, 37]))
def in5_0 : List SPat := [⟨[(0, .unk), (1, (.ptr 0 (.c 0))), (2, .unk), (3, (.ptr 1 (.c 0))), (4, (.int .i64)), (5, (.int .i64)), (6, (.int .i64)), (7, (.int .i64)), (11, .unk), (20, .unk), (28, .unk), (37, .unk)], [(true, (.ints .i64)), (true, (.ints .i64))], [], 0⟩]
def out5_0 : List (SX × SPat) := [((.exit 2), ⟨[(0, .unk), (1, (.ptr 0 (.c 0))), (2, .unk), (3, (.ptr 1 (.c 0))), (4, (.int .i64)), (5, (.int .i64)), (6, (.int .i64)), (7, .unk), (11, .unk), (20, .unk), (28, .unk), (37, .unk)], [(true, (.ints .i64)), (true, (.ints .i64))], [], 0⟩)]
def f5_0_0 (t4 : Int) (t5 : Int) (t6 : Int) (t7 : Int) (h0 : List Int) (h1 : List Int) : Option (Nat × List Leaf) :=
  cond (Decidable.decide (t7 < Go.IntKind.wrap Go.IntKind.i64 (Go.IntKind.wrap Go.IntKind.i64 ((4 : Int) * t5) + (4 : Int)))) (if (0 : Int) ≤ t7 ∧ t7 < (16 : Int) then optK (h0[Int.toNat t7]?) (fun x1 => altK (g16 (0, [.i (x1)])) [fun r => asI r (fun x2 r => asE r (cond (Decidable.decide (t6 < x2)) (if (0 : Int) ≤ t7 ∧ t7 < (16 : Int) then optK (h0[Int.toNat t7]?) (fun x3 => altK (g16 (0, [.i (x3)])) [fun r => asI r (fun x4 r => asE r (some (0, [.i (t4), .i (t5), .i (x4), .i (Go.IntKind.wrap Go.IntKind.i64 (t7 + (1 : Int))), .l (h0), .l (h1)])) none) none] none) (none) else none) (some (0, [.i (t4), .i (t5), .i (t6), .i (Go.IntKind.wrap Go.IntKind.i64 (t7 + (1 : Int))), .l (h0), .l (h1)]))) none) none] none) (none) else none) (some (1, [.i (t4), .i (t5), .i (t6), .l (h0), .l (h1)]))
def f5_0 (s : Nat × List Leaf) : Option (Nat × List Leaf) := match s.1 with
  | 0 => let r := s.2; asI r (fun t4 r => asI r (fun t5 r => asI r (fun t6 r => asI r (fun t7 r => asL r (fun h0 r => asL r (fun h1 r => asE r (f5_0_0 t4 t5 t6 t7 h0 h1) none) none) none) none) none) none) none
  | _ => none
def L5_0 (s : Nat × List Leaf) : Option (Nat × List Leaf) := loopL 1 f5_0 s
def orc5_0 : Orc := ⟨in5_0, out5_0, L5_0⟩
def os5_0 : List Orc := []
theorem snd5_0 (n : Nat) : OrcSound (evF tab (n + 20)) (.loop l5_11) orc5_0 :=
  loop_sound (b := kc5_0) (OK := okOf os5_0) (ck5 n) (show OrcsOk (okOf os5_0) (evF tab (n + 20)) kc5_0 from ⟨⟨⟨trivial, ⟨trivial, ⟨trivial, trivial⟩⟩⟩, ⟨⟨trivial, ⟨trivial, trivial⟩⟩, trivial⟩⟩, trivial⟩) (ins := in5_0) (outs := out5_0) (f := f5_0) (by kernel_rfl)
    (all_ins (Q := fun i sh => ∀ ls, fillS sh ls (fun st => evK (ckOf es5) (okOf os5_0) kc5_0 st (findOut (in5_0.map (SX.normal, ·) ++ out5_0) 0) none) none = f5_0 (i, ls)) (l := in5_0) ⟨fun ls => by kernel_rfl, trivial⟩)
def kc5_1 : KC := (.seq (.seq (.seq (.reg r5_4) (.cond (.t 11) .skip (.seq (.kill [0, 1, 2, 5, 6, 7, 11, 20, 28, 37]) (.exit 0)))) (.seq (.block 1 (.seq (.reg r5_5) (.seq (.seq (.reg r5_6) (.block 2 (.seq (.kill [0, 2, 11, 20, 28, 37]) (.orc 0 (.loop l5_11))))) (.seq (.seq (.reg r5_12) (.cond (.t 37) (.seq (.reg r5_13) (.seq (.kill [0, 1, 3, 4, 5, 6, 7, 11, 20, 28, 37]) .ret)) .skip)) (.reg r5_14))))) (.reg r5_15))) (.kill [0, 2, 6, 7, 11, 20, 28, 37]))
def in5_1 : List SPat := [⟨[(0, .unk), (1, (.ptr 0 (.c 0))), (2, .unk), (3, (.ptr 1 (.c 0))), (4, (.int .i64)), (5, (.int .i64)), (6, .unk), (7, .unk), (11, .unk), (20, .unk), (28, .unk), (37, .unk)], [(true, (.ints .i64)), (true, (.ints .i64))], [], 0⟩]
def out5_1 : List (SX × SPat) := [((.exit 0), ⟨[(0, .unk), (1, .unk), (2, .unk), (3, (.ptr 1 (.c 0))), (4, (.int .i64)), (5, .unk), (6, .unk), (7, .unk), (11, .unk), (20, .unk), (28, .unk), (37, .unk)], [(true, (.ints .i64)), (true, (.ints .i64))], [], 0⟩), (.ret, ⟨[(0, .unk), (1, .unk), (2, (.cbool false)), (3, .unk), (4, .unk), (5, .unk), (6, .unk), (7, .unk), (11, .unk), (20, .unk), (28, .unk), (37, .unk)], [(true, (.ints .i64)), (true, (.ints .i64))], [], 0⟩)]
def f5_1_0 (t4 : Int) (t5 : Int) (h0 : List Int) (h1 : List Int) : Option (Nat × List Leaf) :=
  cond (Decidable.decide (t5 < (4 : Int))) (altK (L5_0 (0, [.i (t4), .i (t5), .i ((0 : Int)), .i (Go.IntKind.wrap Go.IntKind.i64 ((4 : Int) * t5)), .l (h0), .l (h1)])) [fun r => asI r (fun x5 r => asI r (fun x6 r => asI r (fun x7 r => asL r (fun x13h0 r => asL r (fun x13h1 r => asE r (if (0 : Int) ≤ x6 ∧ x6 < (4 : Int) then optK (x13h1[Int.toNat x6]?) (fun x14 => cond (Decidable.decide (x14 ≠ x7)) (some (2, [.l (x13h0), .l (x13h1)])) (some (0, [.i (Go.IntKind.wrap Go.IntKind.i64 (x5 + Go.IntKind.wrap Go.IntKind.i64 ((4 : Int) * x7))), .i (Go.IntKind.wrap Go.IntKind.i64 (x6 + (1 : Int))), .l (x13h0), .l (x13h1)]))) (none) else none) none) none) none) none) none) none] none) (some (1, [.i (t4), .l (h0), .l (h1)]))
def f5_1 (s : Nat × List Leaf) : Option (Nat × List Leaf) := match s.1 with
  | 0 => let r := s.2; asI r (fun t4 r => asI r (fun t5 r => asL r (fun h0 r => asL r (fun h1 r => asE r (f5_1_0 t4 t5 h0 h1) none) none) none) none) none
  | _ => none
def L5_1 (s : Nat × List Leaf) : Option (Nat × List Leaf) := loopL 1 f5_1 s
def orc5_1 : Orc := ⟨in5_1, out5_1, L5_1⟩
def os5_1 : List Orc := [orc5_0]
theorem snd5_1 (n : Nat) : OrcSound (evF tab (n + 20)) (.loop l5_16) orc5_1 :=
  loop_sound (b := kc5_1) (OK := okOf os5_1) (ck5 n) (show OrcsOk (okOf os5_1) (evF tab (n + 20)) kc5_1 from ⟨⟨⟨trivial, ⟨trivial, ⟨trivial, trivial⟩⟩⟩, ⟨⟨trivial, ⟨⟨trivial, ⟨trivial, (okOf_ok (os := os5_1) (i := 0) (o := orc5_0) rfl (snd5_0 n))⟩⟩, ⟨⟨trivial, ⟨⟨trivial, ⟨trivial, trivial⟩⟩, trivial⟩⟩, trivial⟩⟩⟩, trivial⟩⟩, trivial⟩) (ins := in5_1) (outs := out5_1) (f := f5_1) (by kernel_rfl)
    (all_ins (Q := fun i sh => ∀ ls, fillS sh ls (fun st => evK (ckOf es5) (okOf os5_1) kc5_1 st (findOut (in5_1.map (SX.normal, ·) ++ out5_1) 0) none) none = f5_1 (i, ls)) (l := in5_1) ⟨fun ls => by kernel_rfl, trivial⟩)
def kc5 : KC := (.seq (.reg r5_0) (.seq (.reg r5_1) (.seq (.reg r5_2) (.seq (.seq (.reg r5_3) (.block 0 (.seq (.kill [0, 2, 6, 7, 11, 20, 28, 37]) (.orc 1 (.loop l5_16))))) (.seq (.reg r5_17) (.seq (.kill [0, 1, 3, 4, 5, 6, 7, 11, 20, 28, 37]) .ret))))))
def ain5 : List APat := [⟨[(.ints .i64)], []⟩]
def aout5 : List RPat := [⟨.bool, [], []⟩]
def g5_0 (a0 : List Int) : Option (Nat × List Leaf) :=
  if (16 : Nat) ≤ List.length a0 then altK (g15 (0, [.l (List.take (16 : Nat) a0)])) [fun r => asL r (fun x1 r => asE r (if List.length x1 = (4 : Nat) then if (0 : Nat) + List.length x1 ≤ (4 : Nat) then altK (L5_1 (0, [.i ((0 : Int)), .i ((0 : Int)), .l (a0), .l (x1 ++ List.drop ((0 : Nat) + List.length x1) [(0 : Int), (0 : Int), (0 : Int), (0 : Int)])])) [fun r => asI r (fun x6 r => asL r (fun x14h0 r => asL r (fun x14h1 r => asE r (if (4 : Nat) ≤ List.length x14h1 then altK (g17 (0, [.l (List.take (4 : Nat) x14h1)])) [fun r => asI r (fun x15 r => asE r (cond (Decidable.decide (x15 = x6)) (altK (awakeL (0, [])) [fun r => asB r (fun x16 r => asE r (some (0, [.b (x16)])) none) none] none) (some (0, [.b (Bool.false)]))) none) none] none else none) none) none) none) none, fun r => asL r (fun x29h0 r => asL r (fun x29h1 r => asE r (some (0, [.b (Bool.false)])) none) none) none] none else none else none) none) none] none else none
def g5 (s : Nat × List Leaf) : Option (Nat × List Leaf) := match s.1 with
  | 0 => let r := s.2; asL r (fun a0 r => asE r (g5_0 a0) none) none
  | _ => none
def ent5 : Ent := ⟨ain5, aout5, g5⟩
def os5 : List Orc := [orc5_0, orc5_1]
theorem ok5 (n : Nat) : EntSound (evF tab (n + 21)) 5 ent5 :=
  fn_sound (n := n + 20) (ck5 n) (OK := okOf os5) (body := kc5) (show OrcsOk (okOf os5) (evF tab (n + 20)) kc5 from ⟨trivial, ⟨trivial, ⟨trivial, ⟨⟨trivial, ⟨trivial, (okOf_ok (os := os5) (i := 1) (o := orc5_1) rfl (snd5_1 n))⟩⟩, ⟨trivial, ⟨trivial, trivial⟩⟩⟩⟩⟩⟩) t5 (by kernel_rfl)
    (all_ins (Q := fun i sh => ∀ ls, fillA sh ls (fun args h => fnK (ckOf es5) (okOf os5) sf5 kc5 args h (findRes aout5 0) none) none = g5 (i, ls)) (l := ain5) ⟨fun ls => by kernel_rfl, trivial⟩)
/-! function 6 -/
def es6 : List (FuncId × Ent) := [(18, ent18), (14, ent14), (13, ent13), (7, awakeE), (10, ent10), (19, ent19)]
theorem ck6 (n : Nat) : CallKOk (ckOf es6) (evF tab (n + 20)) :=
  ckOf_cons (ok18 (n + 19)) (ckOf_cons (ok14 (n + 18)) (ckOf_cons (ok13 (n + 19)) (ckOf_cons (ok7 (n + 0)) (ckOf_cons (ok10 (n + 19)) (ckOf_cons (ok19 (n + 17)) (ckOf_nil))))))
def kc6_0 : KC := (.seq (.seq (.seq (.reg r6_13) (.cond (.t 51) .skip (.seq (.kill [0, 1, 2, 3, 8, 9, 10, 12, 13, 19, 27, 40, 48, 51, 62, 67]) (.exit 0)))) (.seq (.block 1 (.seq (.reg r6_14) (.seq (.seq (.reg r6_15) (.cond (.t 62) (.reg r6_16) .skip)) (.seq (.reg r6_17) (.cond (.t 67) (.reg r6_18) .skip))))) (.reg r6_19))) (.kill [0, 1, 2, 3, 8, 9, 10, 13, 19, 27, 40, 48, 51, 62, 67]))
def in6_0 : List SPat := [⟨[(0, .unk), (1, .unk), (2, .unk), (3, .unk), (4, (.ptr 0 (.c 0))), (5, (.ptr 1 (.c 0))), (8, .unk), (9, .unk), (10, .unk), (11, (.int .i64)), (12, (.int .i64)), (13, .unk), (19, .unk), (27, .unk), (40, .unk), (48, .unk), (51, .unk), (62, .unk), (67, .unk)], [(true, (.ints .i64)), (true, (.ints .i64))], [], 0⟩]
def out6_0 : List (SX × SPat) := [((.exit 0), ⟨[(0, .unk), (1, .unk), (2, .unk), (3, .unk), (4, (.ptr 0 (.c 0))), (5, (.ptr 1 (.c 0))), (8, .unk), (9, .unk), (10, .unk), (11, (.int .i64)), (12, .unk), (13, .unk), (19, .unk), (27, .unk), (40, .unk), (48, .unk), (51, .unk), (62, .unk), (67, .unk)], [(true, (.ints .i64)), (true, (.ints .i64))], [], 0⟩)]
def f6_0_0 (t11 : Int) (t12 : Int) (h0 : List Int) (h1 : List Int) : Option (Nat × List Leaf) :=
  cond (Decidable.decide (t12 < (16 : Int))) (if (0 : Int) ≤ t12 ∧ t12 < (16 : Int) then optK (h0[Int.toNat t12]?) (fun x1 => if (0 : Int) ≤ t12 ∧ t12 < (16 : Int) then optK (h1[Int.toNat t12]?) (fun x2 => cond (Decidable.decide (Go.IntKind.wrap Go.IntKind.i64 (x1 - x2) < (0 : Int))) (cond (Decidable.decide (t11 < Go.IntKind.wrap Go.IntKind.i64 ((0 : Int) - Go.IntKind.wrap Go.IntKind.i64 (x1 - x2)))) (some (0, [.i (Go.IntKind.wrap Go.IntKind.i64 ((0 : Int) - Go.IntKind.wrap Go.IntKind.i64 (x1 - x2))), .i (Go.IntKind.wrap Go.IntKind.i64 (t12 + (1 : Int))), .l (h0), .l (h1)])) (some (0, [.i (t11), .i (Go.IntKind.wrap Go.IntKind.i64 (t12 + (1 : Int))), .l (h0), .l (h1)]))) (cond (Decidable.decide (t11 < Go.IntKind.wrap Go.IntKind.i64 (x1 - x2))) (some (0, [.i (Go.IntKind.wrap Go.IntKind.i64 (x1 - x2)), .i (Go.IntKind.wrap Go.IntKind.i64 (t12 + (1 : Int))), .l (h0), .l (h1)])) (some (0, [.i (t11), .i (Go.IntKind.wrap Go.IntKind.i64 (t12 + (1 : Int))), .l (h0), .l (h1)])))) (none) else none) (none) else none) (some (1, [.i (t11), .l (h0), .l (h1)]))
def f6_0 (s : Nat × List Leaf) : Option (Nat × List Leaf) := match s.1 with
  | 0 => let r := s.2; asI r (fun t11 r => asI r (fun t12 r => asL r (fun h0 r => asL r (fun h1 r => asE r (f6_0_0 t11 t12 h0 h1) none) none) none) none) none
  | _ => none
def L6_0 (s : Nat × List Leaf) : Option (Nat × List Leaf) := loopL 1 f6_0 s
def orc6_0 : Orc := ⟨in6_0, out6_0, L6_0⟩
def os6_0 : List Orc := []
theorem snd6_0 (n : Nat) : OrcSound (evF tab (n + 20)) (.loop l6_20) orc6_0 :=
  loop_sound (b := kc6_0) (OK := okOf os6_0) (ck6 n) (show OrcsOk (okOf os6_0) (evF tab (n + 20)) kc6_0 from ⟨⟨⟨trivial, ⟨trivial, ⟨trivial, trivial⟩⟩⟩, ⟨⟨trivial, ⟨⟨trivial, ⟨trivial, trivial⟩⟩, ⟨trivial, ⟨trivial, trivial⟩⟩⟩⟩, trivial⟩⟩, trivial⟩) (ins := in6_0) (outs := out6_0) (f := f6_0) (by kernel_rfl)
    (all_ins (Q := fun i sh => ∀ ls, fillS sh ls (fun st => evK (ckOf es6) (okOf os6_0) kc6_0 st (findOut (in6_0.map (SX.normal, ·) ++ out6_0) 0) none) none = f6_0 (i, ls)) (l := in6_0) ⟨fun ls => by kernel_rfl, trivial⟩)
def kc6 : KC := (.seq (.reg r6_0) (.seq (.reg r6_1) (.seq (.seq (.reg r6_2) (.cond (.t 19) (.reg r6_3) .skip)) (.seq (.reg r6_4) (.seq (.seq (.reg r6_5) (.cond (.t 27) (.reg r6_6) .skip)) (.seq (.seq (.reg r6_7) (.cond (.t 40) (.seq (.reg r6_8) (.seq (.kill [0, 1, 2, 3, 4, 5, 9, 10, 11, 12, 13, 19, 27, 40, 48, 51, 62, 67]) .ret)) .skip)) (.seq (.seq (.reg r6_9) (.cond (.t 48) (.seq (.reg r6_10) (.seq (.kill [0, 1, 2, 3, 4, 5, 9, 10, 11, 12, 13, 19, 27, 40, 48, 51, 62, 67]) .ret)) .skip)) (.seq (.reg r6_11) (.seq (.seq (.reg r6_12) (.block 0 (.seq (.kill [0, 1, 2, 3, 8, 9, 10, 13, 19, 27, 40, 48, 51, 62, 67]) (.orc 0 (.loop l6_20))))) (.seq (.reg r6_21) (.seq (.kill [0, 1, 2, 3, 4, 5, 9, 10, 11, 12, 13, 19, 27, 40, 48, 51, 62, 67]) .ret)))))))))))
def ain6 : List APat := [⟨[(.ints .i64), (.ints .i64), (.int .i64), (.int .i64)], []⟩]
def aout6 : List RPat := [⟨.bool, [], []⟩]
def g6_0 (a0 : List Int) (a1 : List Int) (a2 : Int) (a3 : Int) : Option (Nat × List Leaf) :=
  cond (Decidable.decide ((0 : Int) ≤ a2)) (cond (Decidable.decide (a2 < (16 : Int))) (cond (Decidable.decide ((1 : Int) ≤ a3)) (cond (Decidable.decide (a3 ≤ (23 : Int))) (altK (g10 (0, [.i (a3)])) [fun r => asI r (fun x227 r => asE r (altK (g18 (0, [.i (a2)])) [fun r => asI r (fun x228 r => asE r (cond (Decidable.decide (x228 ≠ Go.IntKind.wrap Go.IntKind.i64 (Int.tdiv a2 (4 : Int)))) (some (0, [.b (Bool.false)])) (altK (g14 (0, [.i (a3)])) [fun r => asI r (fun x229 r => asE r (cond (Decidable.decide (x229 ≠ Go.IntKind.wrap Go.IntKind.i64 (Int.tdiv x227 (2 : Int)))) (some (0, [.b (Bool.false)])) (if (16 : Nat) ≤ List.length a0 then altK (g13 (0, [.l (List.take (16 : Nat) a0)])) [fun r => asB r (fun x230 r => asE r (cond (!x230) (altK (awakeL (0, [])) [fun r => asB r (fun x255 r => asE r (some (0, [.b (x255)])) none) none] none) (if (16 : Nat) ≤ List.length a1 then altK (g13 (0, [.l (List.take (16 : Nat) a1)])) [fun r => asB r (fun x231 r => asE r (cond (!x231) (altK (awakeL (0, [])) [fun r => asB r (fun x254 r => asE r (some (0, [.b (x254)])) none) none] none) (altK (L6_0 (0, [.i ((0 : Int)), .i ((0 : Int)), .l (a0), .l (a1)])) [fun r => asI r (fun x241 r => asL r (fun x251h0 r => asL r (fun x251h1 r => asE r (if (16 : Nat) ≤ List.length x251h0 then if (16 : Nat) ≤ List.length x251h1 then altK (g19 (0, [.l (List.take (16 : Nat) x251h0), .l (List.take (16 : Nat) x251h1)])) [fun r => asI r (fun x252 r => asE r (cond (Decidable.decide (x252 = x241)) (altK (awakeL (0, [])) [fun r => asB r (fun x253 r => asE r (some (0, [.b (x253)])) none) none] none) (some (0, [.b (Bool.false)]))) none) none] none else none else none) none) none) none) none] none)) none) none] none else none)) none) none] none else none)) none) none] none)) none) none] none) none) none] none) (altK (g18 (0, [.i (a2)])) [fun r => asI r (fun x199 r => asE r (cond (Decidable.decide (x199 ≠ Go.IntKind.wrap Go.IntKind.i64 (Int.tdiv a2 (4 : Int)))) (some (0, [.b (Bool.false)])) (altK (g14 (0, [.i (a3)])) [fun r => asI r (fun x200 r => asE r (cond (Decidable.decide (x200 ≠ (0 : Int))) (some (0, [.b (Bool.false)])) (if (16 : Nat) ≤ List.length a0 then altK (g13 (0, [.l (List.take (16 : Nat) a0)])) [fun r => asB r (fun x201 r => asE r (cond (!x201) (altK (awakeL (0, [])) [fun r => asB r (fun x226 r => asE r (some (0, [.b (x226)])) none) none] none) (if (16 : Nat) ≤ List.length a1 then altK (g13 (0, [.l (List.take (16 : Nat) a1)])) [fun r => asB r (fun x202 r => asE r (cond (!x202) (altK (awakeL (0, [])) [fun r => asB r (fun x225 r => asE r (some (0, [.b (x225)])) none) none] none) (altK (L6_0 (0, [.i ((0 : Int)), .i ((0 : Int)), .l (a0), .l (a1)])) [fun r => asI r (fun x212 r => asL r (fun x222h0 r => asL r (fun x222h1 r => asE r (if (16 : Nat) ≤ List.length x222h0 then if (16 : Nat) ≤ List.length x222h1 then altK (g19 (0, [.l (List.take (16 : Nat) x222h0), .l (List.take (16 : Nat) x222h1)])) [fun r => asI r (fun x223 r => asE r (cond (Decidable.decide (x223 = x212)) (altK (awakeL (0, [])) [fun r => asB r (fun x224 r => asE r (some (0, [.b (x224)])) none) none] none) (some (0, [.b (Bool.false)]))) none) none] none else none else none) none) none) none) none] none)) none) none] none else none)) none) none] none else none)) none) none] none)) none) none] none)) (altK (g18 (0, [.i (a2)])) [fun r => asI r (fun x171 r => asE r (cond (Decidable.decide (x171 ≠ Go.IntKind.wrap Go.IntKind.i64 (Int.tdiv a2 (4 : Int)))) (some (0, [.b (Bool.false)])) (altK (g14 (0, [.i (a3)])) [fun r => asI r (fun x172 r => asE r (cond (Decidable.decide (x172 ≠ (0 : Int))) (some (0, [.b (Bool.false)])) (if (16 : Nat) ≤ List.length a0 then altK (g13 (0, [.l (List.take (16 : Nat) a0)])) [fun r => asB r (fun x173 r => asE r (cond (!x173) (altK (awakeL (0, [])) [fun r => asB r (fun x198 r => asE r (some (0, [.b (x198)])) none) none] none) (if (16 : Nat) ≤ List.length a1 then altK (g13 (0, [.l (List.take (16 : Nat) a1)])) [fun r => asB r (fun x174 r => asE r (cond (!x174) (altK (awakeL (0, [])) [fun r => asB r (fun x197 r => asE r (some (0, [.b (x197)])) none) none] none) (altK (L6_0 (0, [.i ((0 : Int)), .i ((0 : Int)), .l (a0), .l (a1)])) [fun r => asI r (fun x184 r => asL r (fun x194h0 r => asL r (fun x194h1 r => asE r (if (16 : Nat) ≤ List.length x194h0 then if (16 : Nat) ≤ List.length x194h1 then altK (g19 (0, [.l (List.take (16 : Nat) x194h0), .l (List.take (16 : Nat) x194h1)])) [fun r => asI r (fun x195 r => asE r (cond (Decidable.decide (x195 = x184)) (altK (awakeL (0, [])) [fun r => asB r (fun x196 r => asE r (some (0, [.b (x196)])) none) none] none) (some (0, [.b (Bool.false)]))) none) none] none else none else none) none) none) none) none] none)) none) none] none else none)) none) none] none else none)) none) none] none)) none) none] none)) (cond (Decidable.decide ((1 : Int) ≤ a3)) (cond (Decidable.decide (a3 ≤ (23 : Int))) (altK (g10 (0, [.i (a3)])) [fun r => asI r (fun x142 r => asE r (altK (g18 (0, [.i (a2)])) [fun r => asI r (fun x143 r => asE r (cond (Decidable.decide (x143 ≠ (0 : Int))) (some (0, [.b (Bool.false)])) (altK (g14 (0, [.i (a3)])) [fun r => asI r (fun x144 r => asE r (cond (Decidable.decide (x144 ≠ Go.IntKind.wrap Go.IntKind.i64 (Int.tdiv x142 (2 : Int)))) (some (0, [.b (Bool.false)])) (if (16 : Nat) ≤ List.length a0 then altK (g13 (0, [.l (List.take (16 : Nat) a0)])) [fun r => asB r (fun x145 r => asE r (cond (!x145) (altK (awakeL (0, [])) [fun r => asB r (fun x170 r => asE r (some (0, [.b (x170)])) none) none] none) (if (16 : Nat) ≤ List.length a1 then altK (g13 (0, [.l (List.take (16 : Nat) a1)])) [fun r => asB r (fun x146 r => asE r (cond (!x146) (altK (awakeL (0, [])) [fun r => asB r (fun x169 r => asE r (some (0, [.b (x169)])) none) none] none) (altK (L6_0 (0, [.i ((0 : Int)), .i ((0 : Int)), .l (a0), .l (a1)])) [fun r => asI r (fun x156 r => asL r (fun x166h0 r => asL r (fun x166h1 r => asE r (if (16 : Nat) ≤ List.length x166h0 then if (16 : Nat) ≤ List.length x166h1 then altK (g19 (0, [.l (List.take (16 : Nat) x166h0), .l (List.take (16 : Nat) x166h1)])) [fun r => asI r (fun x167 r => asE r (cond (Decidable.decide (x167 = x156)) (altK (awakeL (0, [])) [fun r => asB r (fun x168 r => asE r (some (0, [.b (x168)])) none) none] none) (some (0, [.b (Bool.false)]))) none) none] none else none else none) none) none) none) none] none)) none) none] none else none)) none) none] none else none)) none) none] none)) none) none] none) none) none] none) (altK (g18 (0, [.i (a2)])) [fun r => asI r (fun x114 r => asE r (cond (Decidable.decide (x114 ≠ (0 : Int))) (some (0, [.b (Bool.false)])) (altK (g14 (0, [.i (a3)])) [fun r => asI r (fun x115 r => asE r (cond (Decidable.decide (x115 ≠ (0 : Int))) (some (0, [.b (Bool.false)])) (if (16 : Nat) ≤ List.length a0 then altK (g13 (0, [.l (List.take (16 : Nat) a0)])) [fun r => asB r (fun x116 r => asE r (cond (!x116) (altK (awakeL (0, [])) [fun r => asB r (fun x141 r => asE r (some (0, [.b (x141)])) none) none] none) (if (16 : Nat) ≤ List.length a1 then altK (g13 (0, [.l (List.take (16 : Nat) a1)])) [fun r => asB r (fun x117 r => asE r (cond (!x117) (altK (awakeL (0, [])) [fun r => asB r (fun x140 r => asE r (some (0, [.b (x140)])) none) none] none) (altK (L6_0 (0, [.i ((0 : Int)), .i ((0 : Int)), .l (a0), .l (a1)])) [fun r => asI r (fun x127 r => asL r (fun x137h0 r => asL r (fun x137h1 r => asE r (if (16 : Nat) ≤ List.length x137h0 then if (16 : Nat) ≤ List.length x137h1 then altK (g19 (0, [.l (List.take (16 : Nat) x137h0), .l (List.take (16 : Nat) x137h1)])) [fun r => asI r (fun x138 r => asE r (cond (Decidable.decide (x138 = x127)) (altK (awakeL (0, [])) [fun r => asB r (fun x139 r => asE r (some (0, [.b (x139)])) none) none] none) (some (0, [.b (Bool.false)]))) none) none] none else none else none) none) none) none) none] none)) none) none] none else none)) none) none] none else none)) none) none] none)) none) none] none)) (altK (g18 (0, [.i (a2)])) [fun r => asI r (fun x86 r => asE r (cond (Decidable.decide (x86 ≠ (0 : Int))) (some (0, [.b (Bool.false)])) (altK (g14 (0, [.i (a3)])) [fun r => asI r (fun x87 r => asE r (cond (Decidable.decide (x87 ≠ (0 : Int))) (some (0, [.b (Bool.false)])) (if (16 : Nat) ≤ List.length a0 then altK (g13 (0, [.l (List.take (16 : Nat) a0)])) [fun r => asB r (fun x88 r => asE r (cond (!x88) (altK (awakeL (0, [])) [fun r => asB r (fun x113 r => asE r (some (0, [.b (x113)])) none) none] none) (if (16 : Nat) ≤ List.length a1 then altK (g13 (0, [.l (List.take (16 : Nat) a1)])) [fun r => asB r (fun x89 r => asE r (cond (!x89) (altK (awakeL (0, [])) [fun r => asB r (fun x112 r => asE r (some (0, [.b (x112)])) none) none] none) (altK (L6_0 (0, [.i ((0 : Int)), .i ((0 : Int)), .l (a0), .l (a1)])) [fun r => asI r (fun x99 r => asL r (fun x109h0 r => asL r (fun x109h1 r => asE r (if (16 : Nat) ≤ List.length x109h0 then if (16 : Nat) ≤ List.length x109h1 then altK (g19 (0, [.l (List.take (16 : Nat) x109h0), .l (List.take (16 : Nat) x109h1)])) [fun r => asI r (fun x110 r => asE r (cond (Decidable.decide (x110 = x99)) (altK (awakeL (0, [])) [fun r => asB r (fun x111 r => asE r (some (0, [.b (x111)])) none) none] none) (some (0, [.b (Bool.false)]))) none) none] none else none else none) none) none) none) none] none)) none) none] none else none)) none) none] none else none)) none) none] none)) none) none] none))) (cond (Decidable.decide ((1 : Int) ≤ a3)) (cond (Decidable.decide (a3 ≤ (23 : Int))) (altK (g10 (0, [.i (a3)])) [fun r => asI r (fun x57 r => asE r (altK (g18 (0, [.i (a2)])) [fun r => asI r (fun x58 r => asE r (cond (Decidable.decide (x58 ≠ (0 : Int))) (some (0, [.b (Bool.false)])) (altK (g14 (0, [.i (a3)])) [fun r => asI r (fun x59 r => asE r (cond (Decidable.decide (x59 ≠ Go.IntKind.wrap Go.IntKind.i64 (Int.tdiv x57 (2 : Int)))) (some (0, [.b (Bool.false)])) (if (16 : Nat) ≤ List.length a0 then altK (g13 (0, [.l (List.take (16 : Nat) a0)])) [fun r => asB r (fun x60 r => asE r (cond (!x60) (altK (awakeL (0, [])) [fun r => asB r (fun x85 r => asE r (some (0, [.b (x85)])) none) none] none) (if (16 : Nat) ≤ List.length a1 then altK (g13 (0, [.l (List.take (16 : Nat) a1)])) [fun r => asB r (fun x61 r => asE r (cond (!x61) (altK (awakeL (0, [])) [fun r => asB r (fun x84 r => asE r (some (0, [.b (x84)])) none) none] none) (altK (L6_0 (0, [.i ((0 : Int)), .i ((0 : Int)), .l (a0), .l (a1)])) [fun r => asI r (fun x71 r => asL r (fun x81h0 r => asL r (fun x81h1 r => asE r (if (16 : Nat) ≤ List.length x81h0 then if (16 : Nat) ≤ List.length x81h1 then altK (g19 (0, [.l (List.take (16 : Nat) x81h0), .l (List.take (16 : Nat) x81h1)])) [fun r => asI r (fun x82 r => asE r (cond (Decidable.decide (x82 = x71)) (altK (awakeL (0, [])) [fun r => asB r (fun x83 r => asE r (some (0, [.b (x83)])) none) none] none) (some (0, [.b (Bool.false)]))) none) none] none else none else none) none) none) none) none] none)) none) none] none else none)) none) none] none else none)) none) none] none)) none) none] none) none) none] none) (altK (g18 (0, [.i (a2)])) [fun r => asI r (fun x29 r => asE r (cond (Decidable.decide (x29 ≠ (0 : Int))) (some (0, [.b (Bool.false)])) (altK (g14 (0, [.i (a3)])) [fun r => asI r (fun x30 r => asE r (cond (Decidable.decide (x30 ≠ (0 : Int))) (some (0, [.b (Bool.false)])) (if (16 : Nat) ≤ List.length a0 then altK (g13 (0, [.l (List.take (16 : Nat) a0)])) [fun r => asB r (fun x31 r => asE r (cond (!x31) (altK (awakeL (0, [])) [fun r => asB r (fun x56 r => asE r (some (0, [.b (x56)])) none) none] none) (if (16 : Nat) ≤ List.length a1 then altK (g13 (0, [.l (List.take (16 : Nat) a1)])) [fun r => asB r (fun x32 r => asE r (cond (!x32) (altK (awakeL (0, [])) [fun r => asB r (fun x55 r => asE r (some (0, [.b (x55)])) none) none] none) (altK (L6_0 (0, [.i ((0 : Int)), .i ((0 : Int)), .l (a0), .l (a1)])) [fun r => asI r (fun x42 r => asL r (fun x52h0 r => asL r (fun x52h1 r => asE r (if (16 : Nat) ≤ List.length x52h0 then if (16 : Nat) ≤ List.length x52h1 then altK (g19 (0, [.l (List.take (16 : Nat) x52h0), .l (List.take (16 : Nat) x52h1)])) [fun r => asI r (fun x53 r => asE r (cond (Decidable.decide (x53 = x42)) (altK (awakeL (0, [])) [fun r => asB r (fun x54 r => asE r (some (0, [.b (x54)])) none) none] none) (some (0, [.b (Bool.false)]))) none) none] none else none else none) none) none) none) none] none)) none) none] none else none)) none) none] none else none)) none) none] none)) none) none] none)) (altK (g18 (0, [.i (a2)])) [fun r => asI r (fun x1 r => asE r (cond (Decidable.decide (x1 ≠ (0 : Int))) (some (0, [.b (Bool.false)])) (altK (g14 (0, [.i (a3)])) [fun r => asI r (fun x2 r => asE r (cond (Decidable.decide (x2 ≠ (0 : Int))) (some (0, [.b (Bool.false)])) (if (16 : Nat) ≤ List.length a0 then altK (g13 (0, [.l (List.take (16 : Nat) a0)])) [fun r => asB r (fun x3 r => asE r (cond (!x3) (altK (awakeL (0, [])) [fun r => asB r (fun x28 r => asE r (some (0, [.b (x28)])) none) none] none) (if (16 : Nat) ≤ List.length a1 then altK (g13 (0, [.l (List.take (16 : Nat) a1)])) [fun r => asB r (fun x4 r => asE r (cond (!x4) (altK (awakeL (0, [])) [fun r => asB r (fun x27 r => asE r (some (0, [.b (x27)])) none) none] none) (altK (L6_0 (0, [.i ((0 : Int)), .i ((0 : Int)), .l (a0), .l (a1)])) [fun r => asI r (fun x14 r => asL r (fun x24h0 r => asL r (fun x24h1 r => asE r (if (16 : Nat) ≤ List.length x24h0 then if (16 : Nat) ≤ List.length x24h1 then altK (g19 (0, [.l (List.take (16 : Nat) x24h0), .l (List.take (16 : Nat) x24h1)])) [fun r => asI r (fun x25 r => asE r (cond (Decidable.decide (x25 = x14)) (altK (awakeL (0, [])) [fun r => asB r (fun x26 r => asE r (some (0, [.b (x26)])) none) none] none) (some (0, [.b (Bool.false)]))) none) none] none else none else none) none) none) none) none] none)) none) none] none else none)) none) none] none else none)) none) none] none)) none) none] none))
def g6 (s : Nat × List Leaf) : Option (Nat × List Leaf) := match s.1 with
  | 0 => let r := s.2; asL r (fun a0 r => asL r (fun a1 r => asI r (fun a2 r => asI r (fun a3 r => asE r (g6_0 a0 a1 a2 a3) none) none) none) none) none
  | _ => none
def ent6 : Ent := ⟨ain6, aout6, g6⟩
def os6 : List Orc := [orc6_0]
theorem ok6 (n : Nat) : EntSound (evF tab (n + 21)) 6 ent6 :=
  fn_sound (n := n + 20) (ck6 n) (OK := okOf os6) (body := kc6) (show OrcsOk (okOf os6) (evF tab (n + 20)) kc6 from ⟨trivial, ⟨trivial, ⟨⟨trivial, ⟨trivial, trivial⟩⟩, ⟨trivial, ⟨⟨trivial, ⟨trivial, trivial⟩⟩, ⟨⟨trivial, ⟨⟨trivial, ⟨trivial, trivial⟩⟩, trivial⟩⟩, ⟨⟨trivial, ⟨⟨trivial, ⟨trivial, trivial⟩⟩, trivial⟩⟩, ⟨trivial, ⟨⟨trivial, ⟨trivial, (okOf_ok (os := os6) (i := 0) (o := orc6_0) rfl (snd6_0 n))⟩⟩, ⟨trivial, ⟨trivial, trivial⟩⟩⟩⟩⟩⟩⟩⟩⟩⟩⟩) t6 (by kernel_rfl)
    (all_ins (Q := fun i sh => ∀ ls, fillA sh ls (fun args h => fnK (ckOf es6) (okOf os6) sf6 kc6 args h (findRes aout6 0) none) none = g6 (i, ls)) (l := ain6) ⟨fun ls => by kernel_rfl, trivial⟩)
end Go.Proofs.Ytmankoejlflhmaa
