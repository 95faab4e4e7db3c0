/-
  Functions of this seat as functions of leaves, by program, and that the abstract machine answers as they do. Conditions: none.
-/
import Derived.Test.YthgmblahjndpaaaTab
import Derived.Test.YthgmblahjndpaaaSxW
import Derived.KernelRfl
namespace Go.Proofs.Ythgmblahjndpaaa
open Go Go.Sx
set_option maxRecDepth 100000
set_option linter.unusedVariables false
/-! function 17 -/
def es17 : List (FuncId × Ent) := []
theorem ck17 (n : Nat) : CallKOk (ckOf es17) (evF tab (n + 0)) :=
  ckOf_nil
def kc17 : KC := (.seq (.reg r17_0) (.seq (.block 0 (.seq (.reg r17_1) (.cond (.t 3) (.seq (.reg r17_2) (.seq (.kill [0, 3, 6]) .ret)) (.seq (.reg r17_3) (.cond (.t 6) (.seq (.reg r17_4) (.seq (.kill [0, 3, 6]) .ret)) .skip))))) (.seq (.reg r17_5) (.seq (.kill [0, 3, 6]) .ret))))
def ain17 : List APat := [⟨[(.int .i64)], []⟩]
def aout17 : List RPat := [⟨(.int .i64), [], []⟩]
def g17_0 (a0 : Int) : Option (Nat × List Leaf) :=
  cond (Decidable.decide (a0 = (-9223372036854775808 : Int))) (some (0, [.i ((9223372036854775807 : Int))])) (cond (Decidable.decide (a0 < (0 : Int))) (some (0, [.i (Go.IntKind.wrap Go.IntKind.i64 ((0 : Int) - a0))])) (some (0, [.i (a0)])))
def g17 (s : Nat × List Leaf) : Option (Nat × List Leaf) := match s.1 with
  | 0 => let r := s.2; asI r (fun a0 r => asE r (g17_0 a0) none) none
  | _ => none
def ent17 : Ent := ⟨ain17, aout17, g17⟩
def os17 : List Orc := []
theorem ok17 (n : Nat) : EntSound (evF tab (n + 1)) 17 ent17 :=
  fn_sound (n := n + 0) (ck17 n) (OK := okOf os17) (body := kc17) (show OrcsOk (okOf os17) (evF tab (n + 0)) kc17 from ⟨trivial, ⟨⟨trivial, ⟨⟨trivial, ⟨trivial, trivial⟩⟩, ⟨trivial, ⟨⟨trivial, ⟨trivial, trivial⟩⟩, trivial⟩⟩⟩⟩, ⟨trivial, ⟨trivial, trivial⟩⟩⟩⟩) t17 (by kernel_rfl)
    (all_ins (Q := fun i sh => ∀ ls, fillA sh ls (fun args h => fnK (ckOf es17) (okOf os17) sf17 kc17 args h (findRes aout17 0) none) none = g17 (i, ls)) (l := ain17) ⟨fun ls => by kernel_rfl, trivial⟩)
/-! function 9 -/
def es9 : List (FuncId × Ent) := []
theorem ck9 (n : Nat) : CallKOk (ckOf es9) (evF tab (n + 0)) :=
  ckOf_nil
def kc9 : KC := (.seq (.reg r9_0) (.seq (.seq (.reg r9_1) (.cond (.t 12) (.seq (.reg r9_2) (.seq (.kill [0, 1, 5, 6, 12, 21, 24, 32]) .ret)) .skip)) (.seq (.reg r9_3) (.seq (.block 0 (.seq (.reg r9_4) (.cond (.t 21) .skip (.seq (.reg r9_5) (.cond (.t 24) (.reg r9_6) (.seq (.reg r9_7) (.cond (.t 32) (.reg r9_8) .skip))))))) (.seq (.reg r9_9) (.seq (.kill [0, 1, 5, 6, 12, 21, 24, 32]) .ret))))))
def ain9 : List APat := [⟨[(.int .i64), (.int .i64)], []⟩]
def aout9 : List RPat := [⟨(.int .i64), [], []⟩]
def g9_0 (a0 : Int) (a1 : Int) : Option (Nat × List Leaf) :=
  cond (Decidable.decide (a1 < (0 : Int))) (some (0, [.i ((0 : Int))])) (cond (Decidable.decide ((62 : Int) < a1)) (some (0, [.i ((0 : Int))])) (if a1 < (0 : Int) then none else if Go.Sx.shlI Go.IntKind.i64 (1 : Int) a1 = (0 : Int) then none else if a1 < (0 : Int) then none else if Go.Sx.shlI Go.IntKind.i64 (1 : Int) a1 = (0 : Int) then none else cond (Decidable.decide (a1 = (0 : Int))) (some (0, [.i (Go.IntKind.wrap Go.IntKind.i64 (Int.tdiv a0 (Go.Sx.shlI Go.IntKind.i64 (1 : Int) a1)))])) (if Go.IntKind.wrap Go.IntKind.i64 (a1 - (1 : Int)) < (0 : Int) then none else cond (Decidable.decide (Go.Sx.shlI Go.IntKind.i64 (1 : Int) (Go.IntKind.wrap Go.IntKind.i64 (a1 - (1 : Int))) ≤ Int.tmod a0 (Go.Sx.shlI Go.IntKind.i64 (1 : Int) a1))) (some (0, [.i (Go.IntKind.wrap Go.IntKind.i64 (Go.IntKind.wrap Go.IntKind.i64 (Int.tdiv a0 (Go.Sx.shlI Go.IntKind.i64 (1 : Int) a1)) + (1 : Int)))])) (if Go.IntKind.wrap Go.IntKind.i64 (a1 - (1 : Int)) < (0 : Int) then none else cond (Decidable.decide (Int.tmod a0 (Go.Sx.shlI Go.IntKind.i64 (1 : Int) a1) ≤ Go.Sx.shlI Go.IntKind.i64 (-1 : Int) (Go.IntKind.wrap Go.IntKind.i64 (a1 - (1 : Int))))) (some (0, [.i (Go.IntKind.wrap Go.IntKind.i64 (Go.IntKind.wrap Go.IntKind.i64 (Int.tdiv a0 (Go.Sx.shlI Go.IntKind.i64 (1 : Int) a1)) - (1 : Int)))])) (some (0, [.i (Go.IntKind.wrap Go.IntKind.i64 (Int.tdiv a0 (Go.Sx.shlI Go.IntKind.i64 (1 : Int) a1)))]))))))
def g9 (s : Nat × List Leaf) : Option (Nat × List Leaf) := match s.1 with
  | 0 => let r := s.2; asI r (fun a0 r => asI r (fun a1 r => asE r (g9_0 a0 a1) none) none) none
  | _ => none
def ent9 : Ent := ⟨ain9, aout9, g9⟩
def os9 : List Orc := []
theorem ok9 (n : Nat) : EntSound (evF tab (n + 1)) 9 ent9 :=
  fn_sound (n := n + 0) (ck9 n) (OK := okOf os9) (body := kc9) (show OrcsOk (okOf os9) (evF tab (n + 0)) kc9 from ⟨trivial, ⟨⟨trivial, ⟨⟨trivial, ⟨trivial, trivial⟩⟩, trivial⟩⟩, ⟨trivial, ⟨⟨trivial, ⟨trivial, ⟨trivial, ⟨trivial, ⟨trivial, ⟨trivial, trivial⟩⟩⟩⟩⟩⟩, ⟨trivial, ⟨trivial, trivial⟩⟩⟩⟩⟩⟩) t9 (by kernel_rfl)
    (all_ins (Q := fun i sh => ∀ ls, fillA sh ls (fun args h => fnK (ckOf es9) (okOf os9) sf9 kc9 args h (findRes aout9 0) none) none = g9 (i, ls)) (l := ain9) ⟨fun ls => by kernel_rfl, trivial⟩)
/-! function 8 -/
def es8 : List (FuncId × Ent) := []
theorem ck8 (n : Nat) : CallKOk (ckOf es8) (evF tab (n + 0)) :=
  ckOf_nil
def kc8 : KC := (.seq (.reg r8_0) (.seq (.block 0 (.seq (.reg r8_1) (.cond (.t 5) (.seq (.reg r8_2) (.seq (.kill [0, 1, 5, 12]) .ret)) (.seq (.reg r8_3) (.cond (.t 12) (.seq (.reg r8_4) (.seq (.kill [0, 1, 5, 12]) .ret)) .skip))))) (.seq (.reg r8_5) (.seq (.kill [0, 1, 5, 12]) .ret))))
def ain8 : List APat := [⟨[(.int .i64), (.int .i64)], []⟩]
def aout8 : List RPat := [⟨(.int .i64), [], []⟩]
def g8_0 (a0 : Int) (a1 : Int) : Option (Nat × List Leaf) :=
  cond (Decidable.decide (a1 < (0 : Int))) (some (0, [.i ((0 : Int))])) (cond (Decidable.decide ((62 : Int) < a1)) (some (0, [.i ((0 : Int))])) (cond (Decidable.decide (a1 = (0 : Int))) (some (0, [.i (a0)])) (if a1 < (0 : Int) then none else if Go.IntKind.wrap Go.IntKind.i64 (a1 - (1 : Int)) < (0 : Int) then none else some (0, [.i (Go.IntKind.wrap Go.IntKind.i64 (Go.Sx.shrI Go.IntKind.i64 a0 a1 + Go.Sx.bAnd Go.IntKind.i64 (Go.Sx.shrI Go.IntKind.i64 a0 (Go.IntKind.wrap Go.IntKind.i64 (a1 - (1 : Int)))) (1 : Int)))]))))
def g8 (s : Nat × List Leaf) : Option (Nat × List Leaf) := match s.1 with
  | 0 => let r := s.2; asI r (fun a0 r => asI r (fun a1 r => asE r (g8_0 a0 a1) none) none) none
  | _ => none
def ent8 : Ent := ⟨ain8, aout8, g8⟩
def os8 : List Orc := []
theorem ok8 (n : Nat) : EntSound (evF tab (n + 1)) 8 ent8 :=
  fn_sound (n := n + 0) (ck8 n) (OK := okOf os8) (body := kc8) (show OrcsOk (okOf os8) (evF tab (n + 0)) kc8 from ⟨trivial, ⟨⟨trivial, ⟨⟨trivial, ⟨trivial, trivial⟩⟩, ⟨trivial, ⟨⟨trivial, ⟨trivial, trivial⟩⟩, trivial⟩⟩⟩⟩, ⟨trivial, ⟨trivial, trivial⟩⟩⟩⟩) t8 (by kernel_rfl)
    (all_ins (Q := fun i sh => ∀ ls, fillA sh ls (fun args h => fnK (ckOf es8) (okOf os8) sf8 kc8 args h (findRes aout8 0) none) none = g8 (i, ls)) (l := ain8) ⟨fun ls => by kernel_rfl, trivial⟩)
/-! function 10 -/
def es10 : List (FuncId × Ent) := []
theorem ck10 (n : Nat) : CallKOk (ckOf es10) (evF tab (n + 0)) :=
  ckOf_nil
def kc10 : KC := (.seq (.reg r10_0) (.seq (.seq (.reg r10_1) (.cond (.t 10) (.seq (.reg r10_2) (.seq (.kill [0, 1, 10]) .ret)) .skip)) (.seq (.reg r10_3) (.seq (.kill [0, 1, 10]) .ret))))
def ain10 : List APat := [⟨[(.int .i64), (.int .i64)], []⟩]
def aout10 : List RPat := [⟨(.int .i64), [], []⟩]
def g10_0 (a0 : Int) (a1 : Int) : Option (Nat × List Leaf) :=
  cond (Decidable.decide (a1 < (0 : Int))) (some (0, [.i ((0 : Int))])) (cond (Decidable.decide ((62 : Int) < a1)) (some (0, [.i ((0 : Int))])) (if a1 < (0 : Int) then none else if Go.Sx.shlI Go.IntKind.i64 (1 : Int) a1 = (0 : Int) then none else some (0, [.i (Go.IntKind.wrap Go.IntKind.i64 (Int.tdiv a0 (Go.Sx.shlI Go.IntKind.i64 (1 : Int) a1)))])))
def g10 (s : Nat × List Leaf) : Option (Nat × List Leaf) := match s.1 with
  | 0 => let r := s.2; asI r (fun a0 r => asI r (fun a1 r => asE r (g10_0 a0 a1) none) none) none
  | _ => none
def ent10 : Ent := ⟨ain10, aout10, g10⟩
def os10 : List Orc := []
theorem ok10 (n : Nat) : EntSound (evF tab (n + 1)) 10 ent10 :=
  fn_sound (n := n + 0) (ck10 n) (OK := okOf os10) (body := kc10) (show OrcsOk (okOf os10) (evF tab (n + 0)) kc10 from ⟨trivial, ⟨⟨trivial, ⟨⟨trivial, ⟨trivial, trivial⟩⟩, trivial⟩⟩, ⟨trivial, ⟨trivial, trivial⟩⟩⟩⟩) t10 (by kernel_rfl)
    (all_ins (Q := fun i sh => ∀ ls, fillA sh ls (fun args h => fnK (ckOf es10) (okOf os10) sf10 kc10 args h (findRes aout10 0) none) none = g10 (i, ls)) (l := ain10) ⟨fun ls => by kernel_rfl, trivial⟩)
/-! function 14 -/
def es14 : List (FuncId × Ent) := []
theorem ck14 (n : Nat) : CallKOk (ckOf es14) (evF tab (n + 0)) :=
  ckOf_nil
def kc14 : KC := (.seq (.reg r14_0) (.seq (.block 0 (.seq (.reg r14_1) (.cond (.t 7) (.seq (.reg r14_2) (.seq (.kill [0, 1, 2, 7, 17]) .ret)) (.seq (.reg r14_3) (.cond (.t 17) (.seq (.reg r14_4) (.seq (.kill [0, 1, 2, 7, 17]) .ret)) .skip))))) (.seq (.reg r14_5) (.seq (.kill [0, 1, 2, 7, 17]) .ret))))
def ain14 : List APat := [⟨[(.int .i64), (.int .i64), (.int .i64)], []⟩]
def aout14 : List RPat := [⟨(.int .i64), [], []⟩]
def g14_0 (a0 : Int) (a1 : Int) (a2 : Int) : Option (Nat × List Leaf) :=
  cond (Decidable.decide (a0 < a1)) (some (0, [.i (a1)])) (cond (Decidable.decide (a2 < a1)) (some (0, [.i (a1)])) (cond (Decidable.decide (a2 < a0)) (some (0, [.i (a2)])) (some (0, [.i (a0)]))))
def g14 (s : Nat × List Leaf) : Option (Nat × List Leaf) := match s.1 with
  | 0 => let r := s.2; asI r (fun a0 r => asI r (fun a1 r => asI r (fun a2 r => asE r (g14_0 a0 a1 a2) none) none) none) none
  | _ => none
def ent14 : Ent := ⟨ain14, aout14, g14⟩
def os14 : List Orc := []
theorem ok14 (n : Nat) : EntSound (evF tab (n + 1)) 14 ent14 :=
  fn_sound (n := n + 0) (ck14 n) (OK := okOf os14) (body := kc14) (show OrcsOk (okOf os14) (evF tab (n + 0)) kc14 from ⟨trivial, ⟨⟨trivial, ⟨⟨trivial, ⟨trivial, trivial⟩⟩, ⟨trivial, ⟨⟨trivial, ⟨trivial, trivial⟩⟩, trivial⟩⟩⟩⟩, ⟨trivial, ⟨trivial, trivial⟩⟩⟩⟩) t14 (by kernel_rfl)
    (all_ins (Q := fun i sh => ∀ ls, fillA sh ls (fun args h => fnK (ckOf es14) (okOf os14) sf14 kc14 args h (findRes aout14 0) none) none = g14 (i, ls)) (l := ain14) ⟨fun ls => by kernel_rfl, trivial⟩)
/-! function 16 -/
def es16 : List (FuncId × Ent) := [(14, ent14)]
theorem ck16 (n : Nat) : CallKOk (ckOf es16) (evF tab (n + 1)) :=
  ckOf_cons (ok14 (n + 0)) (ckOf_nil)
def kc16 : KC := (.seq (.reg r16_0) (.seq (.reg r16_1) (.seq (.kill [0]) .ret)))
def ain16 : List APat := [⟨[(.int .i64)], []⟩]
def aout16 : List RPat := [⟨(.int .i64), [], []⟩]
def g16_0 (a0 : Int) : Option (Nat × List Leaf) :=
  altK (g14 (0, [.i (a0), .i ((-32768 : Int)), .i ((32767 : Int))])) [fun r => asI r (fun x1 r => asE r (some (0, [.i (x1)])) none) none] none
def g16 (s : Nat × List Leaf) : Option (Nat × List Leaf) := match s.1 with
  | 0 => let r := s.2; asI r (fun a0 r => asE r (g16_0 a0) none) none
  | _ => none
def ent16 : Ent := ⟨ain16, aout16, g16⟩
def os16 : List Orc := []
theorem ok16 (n : Nat) : EntSound (evF tab (n + 2)) 16 ent16 :=
  fn_sound (n := n + 1) (ck16 n) (OK := okOf os16) (body := kc16) (show OrcsOk (okOf os16) (evF tab (n + 1)) kc16 from ⟨trivial, ⟨trivial, ⟨trivial, trivial⟩⟩⟩) t16 (by kernel_rfl)
    (all_ins (Q := fun i sh => ∀ ls, fillA sh ls (fun args h => fnK (ckOf es16) (okOf os16) sf16 kc16 args h (findRes aout16 0) none) none = g16 (i, ls)) (l := ain16) ⟨fun ls => by kernel_rfl, trivial⟩)
/-! function 13 -/
def es13 : List (FuncId × Ent) := []
theorem ck13 (n : Nat) : CallKOk (ckOf es13) (evF tab (n + 0)) :=
  ckOf_nil
def kc13_0 : KC := (.seq (.seq (.seq (.reg r13_6) (.cond (.t 11) .skip (.seq (.kill [0, 2, 5, 7, 11]) (.exit 0)))) (.seq (.block 1 (.reg r13_7)) (.reg r13_8))) (.kill [2, 5, 7, 11]))
def in13_0 : List SPat := [⟨[(0, (.int .i64)), (2, .unk), (3, (.int .i64)), (5, .unk), (7, .unk), (11, .unk)], [], [], 0⟩]
def out13_0 : List (SX × SPat) := [((.exit 0), ⟨[(0, .unk), (2, .unk), (3, (.int .i64)), (5, .unk), (7, .unk), (11, .unk)], [], [], 0⟩)]
def f13_0_0 (t0 : Int) (t3 : Int) : Option (Nat × List Leaf) :=
  cond (Decidable.decide ((0 : Int) < t0)) (some (0, [.i (Go.Sx.shrI Go.IntKind.i64 t0 (1 : Int)), .i (Go.IntKind.wrap Go.IntKind.i64 (t3 + (1 : Int)))])) (some (1, [.i (t3)]))
def f13_0 (s : Nat × List Leaf) : Option (Nat × List Leaf) := match s.1 with
  | 0 => let r := s.2; asI r (fun t0 r => asI r (fun t3 r => asE r (f13_0_0 t0 t3) none) none) none
  | _ => none
def L13_0 (s : Nat × List Leaf) : Option (Nat × List Leaf) := loopL 1 f13_0 s
def orc13_0 : Orc := ⟨in13_0, out13_0, L13_0⟩
def os13_0 : List Orc := []
theorem snd13_0 (n : Nat) : OrcSound (evF tab (n + 0)) (.loop l13_9) orc13_0 :=
  loop_sound (b := kc13_0) (OK := okOf os13_0) (ck13 n) (show OrcsOk (okOf os13_0) (evF tab (n + 0)) kc13_0 from ⟨⟨⟨trivial, ⟨trivial, ⟨trivial, trivial⟩⟩⟩, ⟨trivial, trivial⟩⟩, trivial⟩) (ins := in13_0) (outs := out13_0) (f := f13_0) (by kernel_rfl)
    (all_ins (Q := fun i sh => ∀ ls, fillS sh ls (fun st => evK (ckOf es13) (okOf os13_0) kc13_0 st (findOut (in13_0.map (SX.normal, ·) ++ out13_0) 0) none) none = f13_0 (i, ls)) (l := in13_0) ⟨fun ls => by kernel_rfl, trivial⟩)
def kc13 : KC := (.seq (.reg r13_0) (.seq (.seq (.reg r13_1) (.cond (.t 5) (.seq (.reg r13_2) (.seq (.kill [0, 3, 5, 7, 11]) .ret)) .skip)) (.seq (.seq (.reg r13_3) (.cond (.t 7) (.reg r13_4) .skip)) (.seq (.reg r13_5) (.seq (.block 0 (.seq (.kill [2, 5, 7, 11]) (.orc 0 (.loop l13_9)))) (.seq (.reg r13_10) (.seq (.kill [0, 3, 5, 7, 11]) .ret)))))))
def ain13 : List APat := [⟨[(.int .i64)], []⟩]
def aout13 : List RPat := [⟨(.int .i64), [], []⟩]
def g13_0 (a0 : Int) : Option (Nat × List Leaf) :=
  cond (Decidable.decide (a0 = (0 : Int))) (some (0, [.i ((0 : Int))])) (cond (Decidable.decide (a0 < (0 : Int))) (altK (L13_0 (0, [.i (Go.Sx.bXor Go.IntKind.i64 (-1 : Int) a0), .i ((1 : Int))])) [fun r => asI r (fun x10 r => asE r (some (0, [.i (x10)])) none) none] none) (altK (L13_0 (0, [.i (a0), .i ((1 : Int))])) [fun r => asI r (fun x3 r => asE r (some (0, [.i (x3)])) none) none] none))
def g13 (s : Nat × List Leaf) : Option (Nat × List Leaf) := match s.1 with
  | 0 => let r := s.2; asI r (fun a0 r => asE r (g13_0 a0) none) none
  | _ => none
def ent13 : Ent := ⟨ain13, aout13, g13⟩
def os13 : List Orc := [orc13_0]
theorem ok13 (n : Nat) : EntSound (evF tab (n + 1)) 13 ent13 :=
  fn_sound (n := n + 0) (ck13 n) (OK := okOf os13) (body := kc13) (show OrcsOk (okOf os13) (evF tab (n + 0)) kc13 from ⟨trivial, ⟨⟨trivial, ⟨⟨trivial, ⟨trivial, trivial⟩⟩, trivial⟩⟩, ⟨⟨trivial, ⟨trivial, trivial⟩⟩, ⟨trivial, ⟨⟨trivial, (okOf_ok (os := os13) (i := 0) (o := orc13_0) rfl (snd13_0 n))⟩, ⟨trivial, ⟨trivial, trivial⟩⟩⟩⟩⟩⟩⟩) t13 (by kernel_rfl)
    (all_ins (Q := fun i sh => ∀ ls, fillA sh ls (fun args h => fnK (ckOf es13) (okOf os13) sf13 kc13 args h (findRes aout13 0) none) none = g13 (i, ls)) (l := ain13) ⟨fun ls => by kernel_rfl, trivial⟩)
/-! function 24 -/
def es24 : List (FuncId × Ent) := [(17, ent17)]
theorem ck24 (n : Nat) : CallKOk (ckOf es24) (evF tab (n + 1)) :=
  ckOf_cons (ok17 (n + 0)) (ckOf_nil)
def kc24_0 : KC := (.seq (.seq (.reg r24_3) (.seq (.cond (.t 9) .skip (.seq (.kill [0, 2, 5, 6, 7, 8, 9]) (.exit 0))) (.seq (.block 1 (.seq (.reg r24_4) (.reg r24_5))) (.reg r24_6)))) (.kill [0, 2, 5, 9]))
def in24_0 : List SPat := [⟨[(0, .unk), (2, .unk), (3, (.int .i64)), (5, .unk), (6, (.slice 0 (.c 0) .h 1)), (7, (.int .i64)), (8, (.int .i64)), (9, .unk)], [(false, (.ints .i64))], [], 1⟩]
def out24_0 : List (SX × SPat) := [((.exit 0), ⟨[(0, .unk), (2, .unk), (3, (.int .i64)), (5, .unk), (6, .unk), (7, .unk), (8, .unk), (9, .unk)], [(false, (.ints .i64))], [], 1⟩)]
def f24_0_0 (t3 : Int) (t6n : Nat) (t7 : Int) (t8 : Int) (h0 : List Int) : Option (Nat × List Leaf) :=
  cond (Decidable.decide (t8 < t7)) (if (0 : Int) ≤ t8 ∧ t8 < (↑t6n : Int) then optK (h0[Int.toNat t8]?) (fun x1 => altK (g17 (0, [.i (x1)])) [fun r => asI r (fun x2 r => asE r (some (0, [.i (if x2 > t3 then x2 else t3), .n (t6n), .i (t7), .i (Go.IntKind.wrap Go.IntKind.i64 (t8 + (1 : Int))), .l (h0)])) none) none] none) (none) else none) (some (1, [.i (t3), .l (h0)]))
def f24_0 (s : Nat × List Leaf) : Option (Nat × List Leaf) := match s.1 with
  | 0 => let r := s.2; asI r (fun t3 r => asN r (fun t6n r => asI r (fun t7 r => asI r (fun t8 r => asL r (fun h0 r => asE r (f24_0_0 t3 t6n t7 t8 h0) none) none) none) none) none) none
  | _ => none
def L24_0 (s : Nat × List Leaf) : Option (Nat × List Leaf) := loopL 1 f24_0 s
def orc24_0 : Orc := ⟨in24_0, out24_0, L24_0⟩
def os24_0 : List Orc := []
theorem snd24_0 (n : Nat) : OrcSound (evF tab (n + 1)) (.loop l24_7) orc24_0 :=
  loop_sound (b := kc24_0) (OK := okOf os24_0) (ck24 n) (show OrcsOk (okOf os24_0) (evF tab (n + 1)) kc24_0 from ⟨⟨trivial, ⟨⟨trivial, ⟨trivial, trivial⟩⟩, ⟨⟨trivial, trivial⟩, trivial⟩⟩⟩, trivial⟩) (ins := in24_0) (outs := out24_0) (f := f24_0) (by kernel_rfl)
    (all_ins (Q := fun i sh => ∀ ls, fillS sh ls (fun st => evK (ckOf es24) (okOf os24_0) kc24_0 st (findOut (in24_0.map (SX.normal, ·) ++ out24_0) 0) none) none = f24_0 (i, ls)) (l := in24_0) ⟨fun ls => by kernel_rfl, trivial⟩)
def kc24 : KC := (.seq (.reg r24_0) (.seq (.reg r24_1) (.seq (.seq (.reg r24_2) (.block 0 (.seq (.kill [0, 2, 5, 9]) (.orc 0 (.loop l24_7))))) (.seq (.reg r24_8) (.seq (.kill [0, 3, 5, 6, 7, 8, 9]) .ret)))))
def ain24 : List APat := [⟨[(.slice 0 (.c 0) .h 1)], [(false, (.ints .i64))]⟩]
def aout24 : List RPat := [⟨(.int .i64), [(false, (.ints .i64))], []⟩]
def g24_0 (a0n : Nat) (h0 : List Int) : Option (Nat × List Leaf) :=
  altK (L24_0 (0, [.i ((0 : Int)), .n (a0n), .i ((↑a0n : Int)), .i ((0 : Int)), .l (h0)])) [fun r => asI r (fun x3 r => asL r (fun x9h0 r => asE r (some (0, [.i (x3), .l (x9h0)])) none) none) none] none
def g24 (s : Nat × List Leaf) : Option (Nat × List Leaf) := match s.1 with
  | 0 => let r := s.2; asN r (fun a0n r => asL r (fun h0 r => asE r (g24_0 a0n h0) none) none) none
  | _ => none
def ent24 : Ent := ⟨ain24, aout24, g24⟩
def os24 : List Orc := [orc24_0]
theorem ok24 (n : Nat) : EntSound (evF tab (n + 2)) 24 ent24 :=
  fn_sound (n := n + 1) (ck24 n) (OK := okOf os24) (body := kc24) (show OrcsOk (okOf os24) (evF tab (n + 1)) kc24 from ⟨trivial, ⟨trivial, ⟨⟨trivial, ⟨trivial, (okOf_ok (os := os24) (i := 0) (o := orc24_0) rfl (snd24_0 n))⟩⟩, ⟨trivial, ⟨trivial, trivial⟩⟩⟩⟩⟩) t24 (by kernel_rfl)
    (all_ins (Q := fun i sh => ∀ ls, fillA sh ls (fun args h => fnK (ckOf es24) (okOf os24) sf24 kc24 args h (findRes aout24 0) none) none = g24 (i, ls)) (l := ain24) ⟨fun ls => by kernel_rfl, trivial⟩)
/-! function 22 -/
def es22 : List (FuncId × Ent) := []
theorem ck22 (n : Nat) : CallKOk (ckOf es22) (evF tab (n + 0)) :=
  ckOf_nil
def kc22_0 : KC := (.seq (.seq (.reg r22_3) (.seq (.cond (.t 10) .skip (.seq (.kill [0, 2, 5, 6, 7, 8, 9, 10, 17, 28]) (.exit 0))) (.seq (.block 1 (.seq (.reg r22_4) (.seq (.reg r22_5) (.block 2 (.seq (.reg r22_6) (.cond (.t 17) (.reg r22_7) (.seq (.reg r22_8) (.cond (.t 28) (.reg r22_9) (.reg r22_10))))))))) (.reg r22_11)))) (.kill [0, 2, 5, 6, 10, 17, 28]))
def in22_0 : List SPat := [⟨[(0, .unk), (2, .unk), (3, (.int .i64)), (5, .unk), (6, .unk), (7, (.slice 0 (.c 0) .h 1)), (8, (.int .i64)), (9, (.int .i64)), (10, .unk), (17, .unk), (28, .unk)], [(false, (.ints .i64))], [], 1⟩]
def out22_0 : List (SX × SPat) := [((.exit 0), ⟨[(0, .unk), (2, .unk), (3, (.int .i64)), (5, .unk), (6, .unk), (7, .unk), (8, .unk), (9, .unk), (10, .unk), (17, .unk), (28, .unk)], [(false, (.ints .i64))], [], 1⟩)]
def f22_0_0 (t3 : Int) (t7n : Nat) (t8 : Int) (t9 : Int) (h0 : List Int) : Option (Nat × List Leaf) :=
  cond (Decidable.decide (t9 < t8)) (if (0 : Int) ≤ t9 ∧ t9 < (↑t7n : Int) then optK (h0[Int.toNat t9]?) (fun x1 => cond (Decidable.decide ((0 : Int) < t3)) (cond (Decidable.decide ((0 : Int) < x1)) (cond (Decidable.decide (Go.IntKind.wrap Go.IntKind.i64 (t3 + x1) < (0 : Int))) (some (0, [.i ((9223372036854775807 : Int)), .n (t7n), .i (t8), .i (Go.IntKind.wrap Go.IntKind.i64 (t9 + (1 : Int))), .l (h0)])) (cond (Decidable.decide (t3 < (0 : Int))) (cond (Decidable.decide (x1 < (0 : Int))) (cond (Decidable.decide ((0 : Int) ≤ Go.IntKind.wrap Go.IntKind.i64 (t3 + x1))) (some (0, [.i ((-9223372036854775808 : Int)), .n (t7n), .i (t8), .i (Go.IntKind.wrap Go.IntKind.i64 (t9 + (1 : Int))), .l (h0)])) (some (0, [.i (Go.IntKind.wrap Go.IntKind.i64 (t3 + x1)), .n (t7n), .i (t8), .i (Go.IntKind.wrap Go.IntKind.i64 (t9 + (1 : Int))), .l (h0)]))) (some (0, [.i (Go.IntKind.wrap Go.IntKind.i64 (t3 + x1)), .n (t7n), .i (t8), .i (Go.IntKind.wrap Go.IntKind.i64 (t9 + (1 : Int))), .l (h0)]))) (some (0, [.i (Go.IntKind.wrap Go.IntKind.i64 (t3 + x1)), .n (t7n), .i (t8), .i (Go.IntKind.wrap Go.IntKind.i64 (t9 + (1 : Int))), .l (h0)])))) (cond (Decidable.decide (t3 < (0 : Int))) (cond (Decidable.decide (x1 < (0 : Int))) (cond (Decidable.decide ((0 : Int) ≤ Go.IntKind.wrap Go.IntKind.i64 (t3 + x1))) (some (0, [.i ((-9223372036854775808 : Int)), .n (t7n), .i (t8), .i (Go.IntKind.wrap Go.IntKind.i64 (t9 + (1 : Int))), .l (h0)])) (some (0, [.i (Go.IntKind.wrap Go.IntKind.i64 (t3 + x1)), .n (t7n), .i (t8), .i (Go.IntKind.wrap Go.IntKind.i64 (t9 + (1 : Int))), .l (h0)]))) (some (0, [.i (Go.IntKind.wrap Go.IntKind.i64 (t3 + x1)), .n (t7n), .i (t8), .i (Go.IntKind.wrap Go.IntKind.i64 (t9 + (1 : Int))), .l (h0)]))) (some (0, [.i (Go.IntKind.wrap Go.IntKind.i64 (t3 + x1)), .n (t7n), .i (t8), .i (Go.IntKind.wrap Go.IntKind.i64 (t9 + (1 : Int))), .l (h0)])))) (cond (Decidable.decide (t3 < (0 : Int))) (cond (Decidable.decide (x1 < (0 : Int))) (cond (Decidable.decide ((0 : Int) ≤ Go.IntKind.wrap Go.IntKind.i64 (t3 + x1))) (some (0, [.i ((-9223372036854775808 : Int)), .n (t7n), .i (t8), .i (Go.IntKind.wrap Go.IntKind.i64 (t9 + (1 : Int))), .l (h0)])) (some (0, [.i (Go.IntKind.wrap Go.IntKind.i64 (t3 + x1)), .n (t7n), .i (t8), .i (Go.IntKind.wrap Go.IntKind.i64 (t9 + (1 : Int))), .l (h0)]))) (some (0, [.i (Go.IntKind.wrap Go.IntKind.i64 (t3 + x1)), .n (t7n), .i (t8), .i (Go.IntKind.wrap Go.IntKind.i64 (t9 + (1 : Int))), .l (h0)]))) (some (0, [.i (Go.IntKind.wrap Go.IntKind.i64 (t3 + x1)), .n (t7n), .i (t8), .i (Go.IntKind.wrap Go.IntKind.i64 (t9 + (1 : Int))), .l (h0)])))) (none) else none) (some (1, [.i (t3), .l (h0)]))
def f22_0 (s : Nat × List Leaf) : Option (Nat × List Leaf) := match s.1 with
  | 0 => let r := s.2; asI r (fun t3 r => asN r (fun t7n r => asI r (fun t8 r => asI r (fun t9 r => asL r (fun h0 r => asE r (f22_0_0 t3 t7n t8 t9 h0) none) none) none) none) none) none
  | _ => none
def L22_0 (s : Nat × List Leaf) : Option (Nat × List Leaf) := loopL 1 f22_0 s
def orc22_0 : Orc := ⟨in22_0, out22_0, L22_0⟩
def os22_0 : List Orc := []
theorem snd22_0 (n : Nat) : OrcSound (evF tab (n + 0)) (.loop l22_12) orc22_0 :=
  loop_sound (b := kc22_0) (OK := okOf os22_0) (ck22 n) (show OrcsOk (okOf os22_0) (evF tab (n + 0)) kc22_0 from ⟨⟨trivial, ⟨⟨trivial, ⟨trivial, trivial⟩⟩, ⟨⟨trivial, ⟨trivial, ⟨trivial, ⟨trivial, ⟨trivial, ⟨trivial, trivial⟩⟩⟩⟩⟩⟩, trivial⟩⟩⟩, trivial⟩) (ins := in22_0) (outs := out22_0) (f := f22_0) (by kernel_rfl)
    (all_ins (Q := fun i sh => ∀ ls, fillS sh ls (fun st => evK (ckOf es22) (okOf os22_0) kc22_0 st (findOut (in22_0.map (SX.normal, ·) ++ out22_0) 0) none) none = f22_0 (i, ls)) (l := in22_0) ⟨fun ls => by kernel_rfl, trivial⟩)
def kc22 : KC := (.seq (.reg r22_0) (.seq (.reg r22_1) (.seq (.seq (.reg r22_2) (.block 0 (.seq (.kill [0, 2, 5, 6, 10, 17, 28]) (.orc 0 (.loop l22_12))))) (.seq (.reg r22_13) (.seq (.kill [0, 3, 5, 6, 7, 8, 9, 10, 17, 28]) .ret)))))
def ain22 : List APat := [⟨[(.slice 0 (.c 0) .h 1)], [(false, (.ints .i64))]⟩]
def aout22 : List RPat := [⟨(.int .i64), [(false, (.ints .i64))], []⟩]
def g22_0 (a0n : Nat) (h0 : List Int) : Option (Nat × List Leaf) :=
  altK (L22_0 (0, [.i ((0 : Int)), .n (a0n), .i ((↑a0n : Int)), .i ((0 : Int)), .l (h0)])) [fun r => asI r (fun x3 r => asL r (fun x12h0 r => asE r (some (0, [.i (x3), .l (x12h0)])) none) none) none] none
def g22 (s : Nat × List Leaf) : Option (Nat × List Leaf) := match s.1 with
  | 0 => let r := s.2; asN r (fun a0n r => asL r (fun h0 r => asE r (g22_0 a0n h0) none) none) none
  | _ => none
def ent22 : Ent := ⟨ain22, aout22, g22⟩
def os22 : List Orc := [orc22_0]
theorem ok22 (n : Nat) : EntSound (evF tab (n + 1)) 22 ent22 :=
  fn_sound (n := n + 0) (ck22 n) (OK := okOf os22) (body := kc22) (show OrcsOk (okOf os22) (evF tab (n + 0)) kc22 from ⟨trivial, ⟨trivial, ⟨⟨trivial, ⟨trivial, (okOf_ok (os := os22) (i := 0) (o := orc22_0) rfl (snd22_0 n))⟩⟩, ⟨trivial, ⟨trivial, trivial⟩⟩⟩⟩⟩) t22 (by kernel_rfl)
    (all_ins (Q := fun i sh => ∀ ls, fillA sh ls (fun args h => fnK (ckOf es22) (okOf os22) sf22 kc22 args h (findRes aout22 0) none) none = g22 (i, ls)) (l := ain22) ⟨fun ls => by kernel_rfl, trivial⟩)
/-! function 23 -/
def es23 : List (FuncId × Ent) := [(22, ent22), (16, ent16)]
theorem ck23 (n : Nat) : CallKOk (ckOf es23) (evF tab (n + 2)) :=
  ckOf_cons (ok22 (n + 1)) (ckOf_cons (ok16 (n + 0)) (ckOf_nil))
def kc23 : KC := (.seq (.reg r23_0) (.seq (.reg r23_1) (.seq (.kill [0]) .ret)))
def ain23 : List APat := [⟨[(.slice 0 (.c 0) .h 1)], [(false, (.ints .i64))]⟩]
def aout23 : List RPat := [⟨(.int .i64), [(false, (.ints .i64))], []⟩]
def g23_0 (a0n : Nat) (h0 : List Int) : Option (Nat × List Leaf) :=
  altK (g22 (0, [.n (a0n), .l (h0)])) [fun r => asI r (fun x1 r => asL r (fun x1h0 r => asE r (altK (g16 (0, [.i (x1)])) [fun r => asI r (fun x2 r => asE r (some (0, [.i (x2), .l (x1h0)])) none) none] none) none) none) none] none
def g23 (s : Nat × List Leaf) : Option (Nat × List Leaf) := match s.1 with
  | 0 => let r := s.2; asN r (fun a0n r => asL r (fun h0 r => asE r (g23_0 a0n h0) none) none) none
  | _ => none
def ent23 : Ent := ⟨ain23, aout23, g23⟩
def os23 : List Orc := []
theorem ok23 (n : Nat) : EntSound (evF tab (n + 3)) 23 ent23 :=
  fn_sound (n := n + 2) (ck23 n) (OK := okOf os23) (body := kc23) (show OrcsOk (okOf os23) (evF tab (n + 2)) kc23 from ⟨trivial, ⟨trivial, ⟨trivial, trivial⟩⟩⟩) t23 (by kernel_rfl)
    (all_ins (Q := fun i sh => ∀ ls, fillA sh ls (fun args h => fnK (ckOf es23) (okOf os23) sf23 kc23 args h (findRes aout23 0) none) none = g23 (i, ls)) (l := ain23) ⟨fun ls => by kernel_rfl, trivial⟩)
/-! function 21 -/
def es21 : List (FuncId × Ent) := []
theorem ck21 (n : Nat) : CallKOk (ckOf es21) (evF tab (n + 0)) :=
  ckOf_nil
def kc21 : KC := (.seq (.reg r21_0) (.seq (.seq (.reg r21_1) (.cond (.t 12) (.seq (.reg r21_2) (.seq (.kill [0, 1, 12, 20]) .ret)) .skip)) (.seq (.seq (.reg r21_3) (.cond (.t 20) (.seq (.reg r21_4) (.seq (.kill [0, 1, 12, 20]) .ret)) .skip)) (.seq (.reg r21_5) (.seq (.kill [0, 1, 12, 20]) .ret)))))
def ain21 : List APat := [⟨[(.int .i64), (.int .i64)], []⟩]
def aout21 : List RPat := [⟨(.int .i64), [], []⟩]
def g21_0 (a0 : Int) (a1 : Int) : Option (Nat × List Leaf) :=
  cond (Decidable.decide ((0 : Int) < a1)) (cond (Decidable.decide (Go.IntKind.wrap Go.IntKind.i64 ((9223372036854775807 : Int) - a1) < a0)) (some (0, [.i ((9223372036854775807 : Int))])) (cond (Decidable.decide (a1 < (0 : Int))) (cond (Decidable.decide (a0 < Go.IntKind.wrap Go.IntKind.i64 ((-9223372036854775808 : Int) - a1))) (some (0, [.i ((-9223372036854775808 : Int))])) (some (0, [.i (Go.IntKind.wrap Go.IntKind.i64 (a0 + a1))]))) (some (0, [.i (Go.IntKind.wrap Go.IntKind.i64 (a0 + a1))])))) (cond (Decidable.decide (a1 < (0 : Int))) (cond (Decidable.decide (a0 < Go.IntKind.wrap Go.IntKind.i64 ((-9223372036854775808 : Int) - a1))) (some (0, [.i ((-9223372036854775808 : Int))])) (some (0, [.i (Go.IntKind.wrap Go.IntKind.i64 (a0 + a1))]))) (some (0, [.i (Go.IntKind.wrap Go.IntKind.i64 (a0 + a1))])))
def g21 (s : Nat × List Leaf) : Option (Nat × List Leaf) := match s.1 with
  | 0 => let r := s.2; asI r (fun a0 r => asI r (fun a1 r => asE r (g21_0 a0 a1) none) none) none
  | _ => none
def ent21 : Ent := ⟨ain21, aout21, g21⟩
def os21 : List Orc := []
theorem ok21 (n : Nat) : EntSound (evF tab (n + 1)) 21 ent21 :=
  fn_sound (n := n + 0) (ck21 n) (OK := okOf os21) (body := kc21) (show OrcsOk (okOf os21) (evF tab (n + 0)) kc21 from ⟨trivial, ⟨⟨trivial, ⟨⟨trivial, ⟨trivial, trivial⟩⟩, trivial⟩⟩, ⟨⟨trivial, ⟨⟨trivial, ⟨trivial, trivial⟩⟩, trivial⟩⟩, ⟨trivial, ⟨trivial, trivial⟩⟩⟩⟩⟩) t21 (by kernel_rfl)
    (all_ins (Q := fun i sh => ∀ ls, fillA sh ls (fun args h => fnK (ckOf es21) (okOf os21) sf21 kc21 args h (findRes aout21 0) none) none = g21 (i, ls)) (l := ain21) ⟨fun ls => by kernel_rfl, trivial⟩)
/-! function 15 -/
def es15 : List (FuncId × Ent) := []
theorem ck15 (n : Nat) : CallKOk (ckOf es15) (evF tab (n + 0)) :=
  ckOf_nil
def kc15 : KC := (.seq (.reg r15_0) (.seq (.seq (.reg r15_1) (.cond (.t 14) (.seq (.reg r15_2) (.seq (.kill [0, 1, 2, 14, 18]) .ret)) .skip)) (.seq (.seq (.reg r15_3) (.cond (.t 18) (.seq (.reg r15_4) (.seq (.kill [0, 1, 2, 14, 18]) .ret)) .skip)) (.seq (.reg r15_5) (.seq (.kill [0, 1, 2, 14, 18]) .ret)))))
def ain15 : List APat := [⟨[(.int .i64), (.int .i64), (.int .i64)], []⟩]
def aout15 : List RPat := [⟨(.int .i64), [], []⟩]
def g15_0 (a0 : Int) (a1 : Int) (a2 : Int) : Option (Nat × List Leaf) :=
  cond (Decidable.decide (a2 < a1)) (some (0, [.i (a1)])) (cond (Decidable.decide (a0 < a1)) (some (0, [.i (a1)])) (cond (Decidable.decide (a2 < a0)) (some (0, [.i (a2)])) (some (0, [.i (a0)]))))
def g15 (s : Nat × List Leaf) : Option (Nat × List Leaf) := match s.1 with
  | 0 => let r := s.2; asI r (fun a0 r => asI r (fun a1 r => asI r (fun a2 r => asE r (g15_0 a0 a1 a2) none) none) none) none
  | _ => none
def ent15 : Ent := ⟨ain15, aout15, g15⟩
def os15 : List Orc := []
theorem ok15 (n : Nat) : EntSound (evF tab (n + 1)) 15 ent15 :=
  fn_sound (n := n + 0) (ck15 n) (OK := okOf os15) (body := kc15) (show OrcsOk (okOf os15) (evF tab (n + 0)) kc15 from ⟨trivial, ⟨⟨trivial, ⟨⟨trivial, ⟨trivial, trivial⟩⟩, trivial⟩⟩, ⟨⟨trivial, ⟨⟨trivial, ⟨trivial, trivial⟩⟩, trivial⟩⟩, ⟨trivial, ⟨trivial, trivial⟩⟩⟩⟩⟩) t15 (by kernel_rfl)
    (all_ins (Q := fun i sh => ∀ ls, fillA sh ls (fun args h => fnK (ckOf es15) (okOf os15) sf15 kc15 args h (findRes aout15 0) none) none = g15 (i, ls)) (l := ain15) ⟨fun ls => by kernel_rfl, trivial⟩)
/-! function 12 -/
def es12 : List (FuncId × Ent) := []
theorem ck12 (n : Nat) : CallKOk (ckOf es12) (evF tab (n + 0)) :=
  ckOf_nil
def kc12_0 : KC := (.seq (.seq (.seq (.reg r12_3) (.cond (.t 7) .skip (.seq (.kill [0, 2, 4, 7]) (.exit 0)))) (.seq (.block 1 (.reg r12_4)) (.reg r12_5))) (.kill [2, 7]))
def in12_0 : List SPat := [⟨[(0, (.int .i64)), (2, .unk), (3, (.int .i64)), (4, (.int .i64)), (7, .unk)], [], [], 0⟩]
def out12_0 : List (SX × SPat) := [((.exit 0), ⟨[(0, .unk), (2, .unk), (3, (.int .i64)), (4, .unk), (7, .unk)], [], [], 0⟩)]
def f12_0_0 (t0 : Int) (t3 : Int) (t4 : Int) : Option (Nat × List Leaf) :=
  cond (Decidable.decide (t4 < t0)) (some (0, [.i (t0), .i (Go.IntKind.wrap Go.IntKind.i64 ((2 : Int) * t3)), .i (Go.IntKind.wrap Go.IntKind.i64 (t4 + (1 : Int)))])) (some (1, [.i (t3)]))
def f12_0 (s : Nat × List Leaf) : Option (Nat × List Leaf) := match s.1 with
  | 0 => let r := s.2; asI r (fun t0 r => asI r (fun t3 r => asI r (fun t4 r => asE r (f12_0_0 t0 t3 t4) none) none) none) none
  | _ => none
def L12_0 (s : Nat × List Leaf) : Option (Nat × List Leaf) := loopL 1 f12_0 s
def orc12_0 : Orc := ⟨in12_0, out12_0, L12_0⟩
def os12_0 : List Orc := []
theorem snd12_0 (n : Nat) : OrcSound (evF tab (n + 0)) (.loop l12_6) orc12_0 :=
  loop_sound (b := kc12_0) (OK := okOf os12_0) (ck12 n) (show OrcsOk (okOf os12_0) (evF tab (n + 0)) kc12_0 from ⟨⟨⟨trivial, ⟨trivial, ⟨trivial, trivial⟩⟩⟩, ⟨trivial, trivial⟩⟩, trivial⟩) (ins := in12_0) (outs := out12_0) (f := f12_0) (by kernel_rfl)
    (all_ins (Q := fun i sh => ∀ ls, fillS sh ls (fun st => evK (ckOf es12) (okOf os12_0) kc12_0 st (findOut (in12_0.map (SX.normal, ·) ++ out12_0) 0) none) none = f12_0 (i, ls)) (l := in12_0) ⟨fun ls => by kernel_rfl, trivial⟩)
def kc12 : KC := (.seq (.reg r12_0) (.seq (.reg r12_1) (.seq (.seq (.reg r12_2) (.block 0 (.seq (.kill [2, 7]) (.orc 0 (.loop l12_6))))) (.seq (.reg r12_7) (.seq (.kill [0, 3, 4, 7]) .ret)))))
def ain12 : List APat := [⟨[(.int .i64)], []⟩]
def aout12 : List RPat := [⟨(.int .i64), [], []⟩]
def g12_0 (a0 : Int) : Option (Nat × List Leaf) :=
  altK (L12_0 (0, [.i (a0), .i ((1 : Int)), .i ((0 : Int))])) [fun r => asI r (fun x3 r => asE r (some (0, [.i (x3)])) none) none] none
def g12 (s : Nat × List Leaf) : Option (Nat × List Leaf) := match s.1 with
  | 0 => let r := s.2; asI r (fun a0 r => asE r (g12_0 a0) none) none
  | _ => none
def ent12 : Ent := ⟨ain12, aout12, g12⟩
def os12 : List Orc := [orc12_0]
theorem ok12 (n : Nat) : EntSound (evF tab (n + 1)) 12 ent12 :=
  fn_sound (n := n + 0) (ck12 n) (OK := okOf os12) (body := kc12) (show OrcsOk (okOf os12) (evF tab (n + 0)) kc12 from ⟨trivial, ⟨trivial, ⟨⟨trivial, ⟨trivial, (okOf_ok (os := os12) (i := 0) (o := orc12_0) rfl (snd12_0 n))⟩⟩, ⟨trivial, ⟨trivial, trivial⟩⟩⟩⟩⟩) t12 (by kernel_rfl)
    (all_ins (Q := fun i sh => ∀ ls, fillA sh ls (fun args h => fnK (ckOf es12) (okOf os12) sf12 kc12 args h (findRes aout12 0) none) none = g12 (i, ls)) (l := ain12) ⟨fun ls => by kernel_rfl, trivial⟩)
/-! function 11: closed -/
theorem ok11 (n : Nat) : EntSound (evF tab (n + 20)) 11 awakeE := awake_sound (by kernel_rfl)
/-! function 3 -/
def es3 : List (FuncId × Ent) := [(12, ent12), (10, ent10), (9, ent9), (8, ent8), (11, awakeE)]
theorem ck3 (n : Nat) : CallKOk (ckOf es3) (evF tab (n + 20)) :=
  ckOf_cons (ok12 (n + 19)) (ckOf_cons (ok10 (n + 19)) (ckOf_cons (ok9 (n + 19)) (ckOf_cons (ok8 (n + 19)) (ckOf_cons (ok11 (n + 0)) (ckOf_nil)))))
def kc3 : KC := (.seq (.reg r3_0) (.seq (.seq (.reg r3_1) (.cond (.t 16) (.seq (.reg r3_2) (.seq (.kill [0, 1, 5, 6, 7, 8, 9, 10, 16, 54, 67, 78]) .ret)) .skip)) (.seq (.reg r3_3) (.seq (.reg r3_4) (.seq (.reg r3_5) (.seq (.reg r3_6) (.seq (.reg r3_7) (.seq (.reg r3_8) (.seq (.seq (.reg r3_9) (.cond (.t 54) (.seq (.reg r3_10) (.reg r3_11)) .skip)) (.seq (.seq (.reg r3_12) (.cond (.t 67) (.reg r3_13) .skip)) (.seq (.seq (.reg r3_14) (.cond (.t 78) (.reg r3_15) .skip)) (.seq (.reg r3_16) (.seq (.kill [0, 1, 5, 6, 7, 8, 9, 10, 16, 54, 67, 78]) .ret)))))))))))))
def ain3 : List APat := [⟨[(.int .i64), (.int .i64)], []⟩]
def aout3 : List RPat := [⟨.bool, [], []⟩]
def g3_0 (a0 : Int) (a1 : Int) : Option (Nat × List Leaf) :=
  cond (Decidable.decide (a1 < (0 : Int))) (altK (g8 (0, [.i (a0), .i (a1)])) [fun r => asI r (fun x114 r => asE r (cond (Decidable.decide (x114 = (0 : Int))) (altK (g9 (0, [.i (a0), .i (a1)])) [fun r => asI r (fun x115 r => asE r (cond (Decidable.decide (x115 = (0 : Int))) (altK (g10 (0, [.i (a0), .i (a1)])) [fun r => asI r (fun x116 r => asE r (cond (Decidable.decide (x116 = (0 : Int))) (altK (awakeL (0, [])) [fun r => asB r (fun x117 r => asE r (some (0, [.b (x117)])) none) none] none) (some (0, [.b (Bool.false)]))) none) none] none) (some (0, [.b (Bool.false)]))) none) none] none) (some (0, [.b (Bool.false)]))) none) none] none) (cond (Decidable.decide ((62 : Int) < a1)) (altK (g8 (0, [.i (a0), .i (a1)])) [fun r => asI r (fun x110 r => asE r (cond (Decidable.decide (x110 = (0 : Int))) (altK (g9 (0, [.i (a0), .i (a1)])) [fun r => asI r (fun x111 r => asE r (cond (Decidable.decide (x111 = (0 : Int))) (altK (g10 (0, [.i (a0), .i (a1)])) [fun r => asI r (fun x112 r => asE r (cond (Decidable.decide (x112 = (0 : Int))) (altK (awakeL (0, [])) [fun r => asB r (fun x113 r => asE r (some (0, [.b (x113)])) none) none] none) (some (0, [.b (Bool.false)]))) none) none] none) (some (0, [.b (Bool.false)]))) none) none] none) (some (0, [.b (Bool.false)]))) none) none] none) (altK (g12 (0, [.i (a1)])) [fun r => asI r (fun x1 r => asE r (if x1 = (0 : Int) then none else if x1 = (0 : Int) then none else cond (Decidable.decide ((0 : Int) < a1)) (cond (Decidable.decide (Go.IntKind.wrap Go.IntKind.i64 (Int.tdiv x1 (2 : Int)) ≤ Int.tmod a0 x1)) (cond (Decidable.decide ((0 : Int) < a1)) (cond (Decidable.decide (Int.tmod a0 x1 ≤ Go.IntKind.wrap Go.IntKind.i64 ((0 : Int) - Go.IntKind.wrap Go.IntKind.i64 (Int.tdiv x1 (2 : Int))))) (cond (Decidable.decide ((0 : Int) < a1)) (cond (Decidable.decide (Int.tmod a0 x1 < Go.IntKind.wrap Go.IntKind.i64 ((0 : Int) - Go.IntKind.wrap Go.IntKind.i64 (Int.tdiv x1 (2 : Int))))) (altK (g10 (0, [.i (a0), .i (a1)])) [fun r => asI r (fun x106 r => asE r (cond (Decidable.decide (x106 = Go.IntKind.wrap Go.IntKind.i64 (Int.tdiv a0 x1))) (altK (g9 (0, [.i (a0), .i (a1)])) [fun r => asI r (fun x107 r => asE r (cond (Decidable.decide (x107 = Go.IntKind.wrap Go.IntKind.i64 (Go.IntKind.wrap Go.IntKind.i64 (Int.tdiv a0 x1) - (1 : Int)))) (altK (g8 (0, [.i (a0), .i (a1)])) [fun r => asI r (fun x108 r => asE r (cond (Decidable.decide (x108 = Go.IntKind.wrap Go.IntKind.i64 (Go.IntKind.wrap Go.IntKind.i64 (Int.tdiv a0 x1) - (1 : Int)))) (altK (awakeL (0, [])) [fun r => asB r (fun x109 r => asE r (some (0, [.b (x109)])) none) none] none) (some (0, [.b (Bool.false)]))) none) none] none) (some (0, [.b (Bool.false)]))) none) none] none) (some (0, [.b (Bool.false)]))) none) none] none) (altK (g10 (0, [.i (a0), .i (a1)])) [fun r => asI r (fun x102 r => asE r (cond (Decidable.decide (x102 = Go.IntKind.wrap Go.IntKind.i64 (Int.tdiv a0 x1))) (altK (g9 (0, [.i (a0), .i (a1)])) [fun r => asI r (fun x103 r => asE r (cond (Decidable.decide (x103 = Go.IntKind.wrap Go.IntKind.i64 (Go.IntKind.wrap Go.IntKind.i64 (Int.tdiv a0 x1) - (1 : Int)))) (altK (g8 (0, [.i (a0), .i (a1)])) [fun r => asI r (fun x104 r => asE r (cond (Decidable.decide (x104 = Go.IntKind.wrap Go.IntKind.i64 (Go.IntKind.wrap Go.IntKind.i64 (Int.tdiv a0 x1) + (1 : Int)))) (altK (awakeL (0, [])) [fun r => asB r (fun x105 r => asE r (some (0, [.b (x105)])) none) none] none) (some (0, [.b (Bool.false)]))) none) none] none) (some (0, [.b (Bool.false)]))) none) none] none) (some (0, [.b (Bool.false)]))) none) none] none)) (altK (g10 (0, [.i (a0), .i (a1)])) [fun r => asI r (fun x98 r => asE r (cond (Decidable.decide (x98 = Go.IntKind.wrap Go.IntKind.i64 (Int.tdiv a0 x1))) (altK (g9 (0, [.i (a0), .i (a1)])) [fun r => asI r (fun x99 r => asE r (cond (Decidable.decide (x99 = Go.IntKind.wrap Go.IntKind.i64 (Go.IntKind.wrap Go.IntKind.i64 (Int.tdiv a0 x1) - (1 : Int)))) (altK (g8 (0, [.i (a0), .i (a1)])) [fun r => asI r (fun x100 r => asE r (cond (Decidable.decide (x100 = Go.IntKind.wrap Go.IntKind.i64 (Go.IntKind.wrap Go.IntKind.i64 (Int.tdiv a0 x1) + (1 : Int)))) (altK (awakeL (0, [])) [fun r => asB r (fun x101 r => asE r (some (0, [.b (x101)])) none) none] none) (some (0, [.b (Bool.false)]))) none) none] none) (some (0, [.b (Bool.false)]))) none) none] none) (some (0, [.b (Bool.false)]))) none) none] none)) (cond (Decidable.decide ((0 : Int) < a1)) (cond (Decidable.decide (Int.tmod a0 x1 < Go.IntKind.wrap Go.IntKind.i64 ((0 : Int) - Go.IntKind.wrap Go.IntKind.i64 (Int.tdiv x1 (2 : Int))))) (altK (g10 (0, [.i (a0), .i (a1)])) [fun r => asI r (fun x94 r => asE r (cond (Decidable.decide (x94 = Go.IntKind.wrap Go.IntKind.i64 (Int.tdiv a0 x1))) (altK (g9 (0, [.i (a0), .i (a1)])) [fun r => asI r (fun x95 r => asE r (cond (Decidable.decide (x95 = Go.IntKind.wrap Go.IntKind.i64 (Go.IntKind.wrap Go.IntKind.i64 (Int.tdiv a0 x1) + (1 : Int)))) (altK (g8 (0, [.i (a0), .i (a1)])) [fun r => asI r (fun x96 r => asE r (cond (Decidable.decide (x96 = Go.IntKind.wrap Go.IntKind.i64 (Go.IntKind.wrap Go.IntKind.i64 (Int.tdiv a0 x1) - (1 : Int)))) (altK (awakeL (0, [])) [fun r => asB r (fun x97 r => asE r (some (0, [.b (x97)])) none) none] none) (some (0, [.b (Bool.false)]))) none) none] none) (some (0, [.b (Bool.false)]))) none) none] none) (some (0, [.b (Bool.false)]))) none) none] none) (altK (g10 (0, [.i (a0), .i (a1)])) [fun r => asI r (fun x90 r => asE r (cond (Decidable.decide (x90 = Go.IntKind.wrap Go.IntKind.i64 (Int.tdiv a0 x1))) (altK (g9 (0, [.i (a0), .i (a1)])) [fun r => asI r (fun x91 r => asE r (cond (Decidable.decide (x91 = Go.IntKind.wrap Go.IntKind.i64 (Go.IntKind.wrap Go.IntKind.i64 (Int.tdiv a0 x1) + (1 : Int)))) (altK (g8 (0, [.i (a0), .i (a1)])) [fun r => asI r (fun x92 r => asE r (cond (Decidable.decide (x92 = Go.IntKind.wrap Go.IntKind.i64 (Go.IntKind.wrap Go.IntKind.i64 (Int.tdiv a0 x1) + (1 : Int)))) (altK (awakeL (0, [])) [fun r => asB r (fun x93 r => asE r (some (0, [.b (x93)])) none) none] none) (some (0, [.b (Bool.false)]))) none) none] none) (some (0, [.b (Bool.false)]))) none) none] none) (some (0, [.b (Bool.false)]))) none) none] none)) (altK (g10 (0, [.i (a0), .i (a1)])) [fun r => asI r (fun x86 r => asE r (cond (Decidable.decide (x86 = Go.IntKind.wrap Go.IntKind.i64 (Int.tdiv a0 x1))) (altK (g9 (0, [.i (a0), .i (a1)])) [fun r => asI r (fun x87 r => asE r (cond (Decidable.decide (x87 = Go.IntKind.wrap Go.IntKind.i64 (Go.IntKind.wrap Go.IntKind.i64 (Int.tdiv a0 x1) + (1 : Int)))) (altK (g8 (0, [.i (a0), .i (a1)])) [fun r => asI r (fun x88 r => asE r (cond (Decidable.decide (x88 = Go.IntKind.wrap Go.IntKind.i64 (Go.IntKind.wrap Go.IntKind.i64 (Int.tdiv a0 x1) + (1 : Int)))) (altK (awakeL (0, [])) [fun r => asB r (fun x89 r => asE r (some (0, [.b (x89)])) none) none] none) (some (0, [.b (Bool.false)]))) none) none] none) (some (0, [.b (Bool.false)]))) none) none] none) (some (0, [.b (Bool.false)]))) none) none] none))) (cond (Decidable.decide ((0 : Int) < a1)) (cond (Decidable.decide (Int.tmod a0 x1 < Go.IntKind.wrap Go.IntKind.i64 ((0 : Int) - Go.IntKind.wrap Go.IntKind.i64 (Int.tdiv x1 (2 : Int))))) (altK (g10 (0, [.i (a0), .i (a1)])) [fun r => asI r (fun x82 r => asE r (cond (Decidable.decide (x82 = Go.IntKind.wrap Go.IntKind.i64 (Int.tdiv a0 x1))) (altK (g9 (0, [.i (a0), .i (a1)])) [fun r => asI r (fun x83 r => asE r (cond (Decidable.decide (x83 = Go.IntKind.wrap Go.IntKind.i64 (Go.IntKind.wrap Go.IntKind.i64 (Int.tdiv a0 x1) + (1 : Int)))) (altK (g8 (0, [.i (a0), .i (a1)])) [fun r => asI r (fun x84 r => asE r (cond (Decidable.decide (x84 = Go.IntKind.wrap Go.IntKind.i64 (Go.IntKind.wrap Go.IntKind.i64 (Int.tdiv a0 x1) - (1 : Int)))) (altK (awakeL (0, [])) [fun r => asB r (fun x85 r => asE r (some (0, [.b (x85)])) none) none] none) (some (0, [.b (Bool.false)]))) none) none] none) (some (0, [.b (Bool.false)]))) none) none] none) (some (0, [.b (Bool.false)]))) none) none] none) (altK (g10 (0, [.i (a0), .i (a1)])) [fun r => asI r (fun x78 r => asE r (cond (Decidable.decide (x78 = Go.IntKind.wrap Go.IntKind.i64 (Int.tdiv a0 x1))) (altK (g9 (0, [.i (a0), .i (a1)])) [fun r => asI r (fun x79 r => asE r (cond (Decidable.decide (x79 = Go.IntKind.wrap Go.IntKind.i64 (Go.IntKind.wrap Go.IntKind.i64 (Int.tdiv a0 x1) + (1 : Int)))) (altK (g8 (0, [.i (a0), .i (a1)])) [fun r => asI r (fun x80 r => asE r (cond (Decidable.decide (x80 = Go.IntKind.wrap Go.IntKind.i64 (Go.IntKind.wrap Go.IntKind.i64 (Int.tdiv a0 x1) + (1 : Int)))) (altK (awakeL (0, [])) [fun r => asB r (fun x81 r => asE r (some (0, [.b (x81)])) none) none] none) (some (0, [.b (Bool.false)]))) none) none] none) (some (0, [.b (Bool.false)]))) none) none] none) (some (0, [.b (Bool.false)]))) none) none] none)) (altK (g10 (0, [.i (a0), .i (a1)])) [fun r => asI r (fun x74 r => asE r (cond (Decidable.decide (x74 = Go.IntKind.wrap Go.IntKind.i64 (Int.tdiv a0 x1))) (altK (g9 (0, [.i (a0), .i (a1)])) [fun r => asI r (fun x75 r => asE r (cond (Decidable.decide (x75 = Go.IntKind.wrap Go.IntKind.i64 (Go.IntKind.wrap Go.IntKind.i64 (Int.tdiv a0 x1) + (1 : Int)))) (altK (g8 (0, [.i (a0), .i (a1)])) [fun r => asI r (fun x76 r => asE r (cond (Decidable.decide (x76 = Go.IntKind.wrap Go.IntKind.i64 (Go.IntKind.wrap Go.IntKind.i64 (Int.tdiv a0 x1) + (1 : Int)))) (altK (awakeL (0, [])) [fun r => asB r (fun x77 r => asE r (some (0, [.b (x77)])) none) none] none) (some (0, [.b (Bool.false)]))) none) none] none) (some (0, [.b (Bool.false)]))) none) none] none) (some (0, [.b (Bool.false)]))) none) none] none))) (cond (Decidable.decide ((0 : Int) < a1)) (cond (Decidable.decide (Int.tmod a0 x1 ≤ Go.IntKind.wrap Go.IntKind.i64 ((0 : Int) - Go.IntKind.wrap Go.IntKind.i64 (Int.tdiv x1 (2 : Int))))) (cond (Decidable.decide ((0 : Int) < a1)) (cond (Decidable.decide (Int.tmod a0 x1 < Go.IntKind.wrap Go.IntKind.i64 ((0 : Int) - Go.IntKind.wrap Go.IntKind.i64 (Int.tdiv x1 (2 : Int))))) (altK (g10 (0, [.i (a0), .i (a1)])) [fun r => asI r (fun x70 r => asE r (cond (Decidable.decide (x70 = Go.IntKind.wrap Go.IntKind.i64 (Int.tdiv a0 x1))) (altK (g9 (0, [.i (a0), .i (a1)])) [fun r => asI r (fun x71 r => asE r (cond (Decidable.decide (x71 = Go.IntKind.wrap Go.IntKind.i64 (Go.IntKind.wrap Go.IntKind.i64 (Int.tdiv a0 x1) - (1 : Int)))) (altK (g8 (0, [.i (a0), .i (a1)])) [fun r => asI r (fun x72 r => asE r (cond (Decidable.decide (x72 = Go.IntKind.wrap Go.IntKind.i64 (Go.IntKind.wrap Go.IntKind.i64 (Int.tdiv a0 x1) - (1 : Int)))) (altK (awakeL (0, [])) [fun r => asB r (fun x73 r => asE r (some (0, [.b (x73)])) none) none] none) (some (0, [.b (Bool.false)]))) none) none] none) (some (0, [.b (Bool.false)]))) none) none] none) (some (0, [.b (Bool.false)]))) none) none] none) (altK (g10 (0, [.i (a0), .i (a1)])) [fun r => asI r (fun x66 r => asE r (cond (Decidable.decide (x66 = Go.IntKind.wrap Go.IntKind.i64 (Int.tdiv a0 x1))) (altK (g9 (0, [.i (a0), .i (a1)])) [fun r => asI r (fun x67 r => asE r (cond (Decidable.decide (x67 = Go.IntKind.wrap Go.IntKind.i64 (Go.IntKind.wrap Go.IntKind.i64 (Int.tdiv a0 x1) - (1 : Int)))) (altK (g8 (0, [.i (a0), .i (a1)])) [fun r => asI r (fun x68 r => asE r (cond (Decidable.decide (x68 = Go.IntKind.wrap Go.IntKind.i64 (Int.tdiv a0 x1))) (altK (awakeL (0, [])) [fun r => asB r (fun x69 r => asE r (some (0, [.b (x69)])) none) none] none) (some (0, [.b (Bool.false)]))) none) none] none) (some (0, [.b (Bool.false)]))) none) none] none) (some (0, [.b (Bool.false)]))) none) none] none)) (altK (g10 (0, [.i (a0), .i (a1)])) [fun r => asI r (fun x62 r => asE r (cond (Decidable.decide (x62 = Go.IntKind.wrap Go.IntKind.i64 (Int.tdiv a0 x1))) (altK (g9 (0, [.i (a0), .i (a1)])) [fun r => asI r (fun x63 r => asE r (cond (Decidable.decide (x63 = Go.IntKind.wrap Go.IntKind.i64 (Go.IntKind.wrap Go.IntKind.i64 (Int.tdiv a0 x1) - (1 : Int)))) (altK (g8 (0, [.i (a0), .i (a1)])) [fun r => asI r (fun x64 r => asE r (cond (Decidable.decide (x64 = Go.IntKind.wrap Go.IntKind.i64 (Int.tdiv a0 x1))) (altK (awakeL (0, [])) [fun r => asB r (fun x65 r => asE r (some (0, [.b (x65)])) none) none] none) (some (0, [.b (Bool.false)]))) none) none] none) (some (0, [.b (Bool.false)]))) none) none] none) (some (0, [.b (Bool.false)]))) none) none] none)) (cond (Decidable.decide ((0 : Int) < a1)) (cond (Decidable.decide (Int.tmod a0 x1 < Go.IntKind.wrap Go.IntKind.i64 ((0 : Int) - Go.IntKind.wrap Go.IntKind.i64 (Int.tdiv x1 (2 : Int))))) (altK (g10 (0, [.i (a0), .i (a1)])) [fun r => asI r (fun x58 r => asE r (cond (Decidable.decide (x58 = Go.IntKind.wrap Go.IntKind.i64 (Int.tdiv a0 x1))) (altK (g9 (0, [.i (a0), .i (a1)])) [fun r => asI r (fun x59 r => asE r (cond (Decidable.decide (x59 = Go.IntKind.wrap Go.IntKind.i64 (Int.tdiv a0 x1))) (altK (g8 (0, [.i (a0), .i (a1)])) [fun r => asI r (fun x60 r => asE r (cond (Decidable.decide (x60 = Go.IntKind.wrap Go.IntKind.i64 (Go.IntKind.wrap Go.IntKind.i64 (Int.tdiv a0 x1) - (1 : Int)))) (altK (awakeL (0, [])) [fun r => asB r (fun x61 r => asE r (some (0, [.b (x61)])) none) none] none) (some (0, [.b (Bool.false)]))) none) none] none) (some (0, [.b (Bool.false)]))) none) none] none) (some (0, [.b (Bool.false)]))) none) none] none) (altK (g10 (0, [.i (a0), .i (a1)])) [fun r => asI r (fun x54 r => asE r (cond (Decidable.decide (x54 = Go.IntKind.wrap Go.IntKind.i64 (Int.tdiv a0 x1))) (altK (g9 (0, [.i (a0), .i (a1)])) [fun r => asI r (fun x55 r => asE r (cond (Decidable.decide (x55 = Go.IntKind.wrap Go.IntKind.i64 (Int.tdiv a0 x1))) (altK (g8 (0, [.i (a0), .i (a1)])) [fun r => asI r (fun x56 r => asE r (cond (Decidable.decide (x56 = Go.IntKind.wrap Go.IntKind.i64 (Int.tdiv a0 x1))) (altK (awakeL (0, [])) [fun r => asB r (fun x57 r => asE r (some (0, [.b (x57)])) none) none] none) (some (0, [.b (Bool.false)]))) none) none] none) (some (0, [.b (Bool.false)]))) none) none] none) (some (0, [.b (Bool.false)]))) none) none] none)) (altK (g10 (0, [.i (a0), .i (a1)])) [fun r => asI r (fun x50 r => asE r (cond (Decidable.decide (x50 = Go.IntKind.wrap Go.IntKind.i64 (Int.tdiv a0 x1))) (altK (g9 (0, [.i (a0), .i (a1)])) [fun r => asI r (fun x51 r => asE r (cond (Decidable.decide (x51 = Go.IntKind.wrap Go.IntKind.i64 (Int.tdiv a0 x1))) (altK (g8 (0, [.i (a0), .i (a1)])) [fun r => asI r (fun x52 r => asE r (cond (Decidable.decide (x52 = Go.IntKind.wrap Go.IntKind.i64 (Int.tdiv a0 x1))) (altK (awakeL (0, [])) [fun r => asB r (fun x53 r => asE r (some (0, [.b (x53)])) none) none] none) (some (0, [.b (Bool.false)]))) none) none] none) (some (0, [.b (Bool.false)]))) none) none] none) (some (0, [.b (Bool.false)]))) none) none] none))) (cond (Decidable.decide ((0 : Int) < a1)) (cond (Decidable.decide (Int.tmod a0 x1 < Go.IntKind.wrap Go.IntKind.i64 ((0 : Int) - Go.IntKind.wrap Go.IntKind.i64 (Int.tdiv x1 (2 : Int))))) (altK (g10 (0, [.i (a0), .i (a1)])) [fun r => asI r (fun x46 r => asE r (cond (Decidable.decide (x46 = Go.IntKind.wrap Go.IntKind.i64 (Int.tdiv a0 x1))) (altK (g9 (0, [.i (a0), .i (a1)])) [fun r => asI r (fun x47 r => asE r (cond (Decidable.decide (x47 = Go.IntKind.wrap Go.IntKind.i64 (Int.tdiv a0 x1))) (altK (g8 (0, [.i (a0), .i (a1)])) [fun r => asI r (fun x48 r => asE r (cond (Decidable.decide (x48 = Go.IntKind.wrap Go.IntKind.i64 (Go.IntKind.wrap Go.IntKind.i64 (Int.tdiv a0 x1) - (1 : Int)))) (altK (awakeL (0, [])) [fun r => asB r (fun x49 r => asE r (some (0, [.b (x49)])) none) none] none) (some (0, [.b (Bool.false)]))) none) none] none) (some (0, [.b (Bool.false)]))) none) none] none) (some (0, [.b (Bool.false)]))) none) none] none) (altK (g10 (0, [.i (a0), .i (a1)])) [fun r => asI r (fun x42 r => asE r (cond (Decidable.decide (x42 = Go.IntKind.wrap Go.IntKind.i64 (Int.tdiv a0 x1))) (altK (g9 (0, [.i (a0), .i (a1)])) [fun r => asI r (fun x43 r => asE r (cond (Decidable.decide (x43 = Go.IntKind.wrap Go.IntKind.i64 (Int.tdiv a0 x1))) (altK (g8 (0, [.i (a0), .i (a1)])) [fun r => asI r (fun x44 r => asE r (cond (Decidable.decide (x44 = Go.IntKind.wrap Go.IntKind.i64 (Int.tdiv a0 x1))) (altK (awakeL (0, [])) [fun r => asB r (fun x45 r => asE r (some (0, [.b (x45)])) none) none] none) (some (0, [.b (Bool.false)]))) none) none] none) (some (0, [.b (Bool.false)]))) none) none] none) (some (0, [.b (Bool.false)]))) none) none] none)) (altK (g10 (0, [.i (a0), .i (a1)])) [fun r => asI r (fun x38 r => asE r (cond (Decidable.decide (x38 = Go.IntKind.wrap Go.IntKind.i64 (Int.tdiv a0 x1))) (altK (g9 (0, [.i (a0), .i (a1)])) [fun r => asI r (fun x39 r => asE r (cond (Decidable.decide (x39 = Go.IntKind.wrap Go.IntKind.i64 (Int.tdiv a0 x1))) (altK (g8 (0, [.i (a0), .i (a1)])) [fun r => asI r (fun x40 r => asE r (cond (Decidable.decide (x40 = Go.IntKind.wrap Go.IntKind.i64 (Int.tdiv a0 x1))) (altK (awakeL (0, [])) [fun r => asB r (fun x41 r => asE r (some (0, [.b (x41)])) none) none] none) (some (0, [.b (Bool.false)]))) none) none] none) (some (0, [.b (Bool.false)]))) none) none] none) (some (0, [.b (Bool.false)]))) none) none] none)))) (cond (Decidable.decide ((0 : Int) < a1)) (cond (Decidable.decide (Int.tmod a0 x1 ≤ Go.IntKind.wrap Go.IntKind.i64 ((0 : Int) - Go.IntKind.wrap Go.IntKind.i64 (Int.tdiv x1 (2 : Int))))) (cond (Decidable.decide ((0 : Int) < a1)) (cond (Decidable.decide (Int.tmod a0 x1 < Go.IntKind.wrap Go.IntKind.i64 ((0 : Int) - Go.IntKind.wrap Go.IntKind.i64 (Int.tdiv x1 (2 : Int))))) (altK (g10 (0, [.i (a0), .i (a1)])) [fun r => asI r (fun x34 r => asE r (cond (Decidable.decide (x34 = Go.IntKind.wrap Go.IntKind.i64 (Int.tdiv a0 x1))) (altK (g9 (0, [.i (a0), .i (a1)])) [fun r => asI r (fun x35 r => asE r (cond (Decidable.decide (x35 = Go.IntKind.wrap Go.IntKind.i64 (Go.IntKind.wrap Go.IntKind.i64 (Int.tdiv a0 x1) - (1 : Int)))) (altK (g8 (0, [.i (a0), .i (a1)])) [fun r => asI r (fun x36 r => asE r (cond (Decidable.decide (x36 = Go.IntKind.wrap Go.IntKind.i64 (Go.IntKind.wrap Go.IntKind.i64 (Int.tdiv a0 x1) - (1 : Int)))) (altK (awakeL (0, [])) [fun r => asB r (fun x37 r => asE r (some (0, [.b (x37)])) none) none] none) (some (0, [.b (Bool.false)]))) none) none] none) (some (0, [.b (Bool.false)]))) none) none] none) (some (0, [.b (Bool.false)]))) none) none] none) (altK (g10 (0, [.i (a0), .i (a1)])) [fun r => asI r (fun x30 r => asE r (cond (Decidable.decide (x30 = Go.IntKind.wrap Go.IntKind.i64 (Int.tdiv a0 x1))) (altK (g9 (0, [.i (a0), .i (a1)])) [fun r => asI r (fun x31 r => asE r (cond (Decidable.decide (x31 = Go.IntKind.wrap Go.IntKind.i64 (Go.IntKind.wrap Go.IntKind.i64 (Int.tdiv a0 x1) - (1 : Int)))) (altK (g8 (0, [.i (a0), .i (a1)])) [fun r => asI r (fun x32 r => asE r (cond (Decidable.decide (x32 = Go.IntKind.wrap Go.IntKind.i64 (Int.tdiv a0 x1))) (altK (awakeL (0, [])) [fun r => asB r (fun x33 r => asE r (some (0, [.b (x33)])) none) none] none) (some (0, [.b (Bool.false)]))) none) none] none) (some (0, [.b (Bool.false)]))) none) none] none) (some (0, [.b (Bool.false)]))) none) none] none)) (altK (g10 (0, [.i (a0), .i (a1)])) [fun r => asI r (fun x26 r => asE r (cond (Decidable.decide (x26 = Go.IntKind.wrap Go.IntKind.i64 (Int.tdiv a0 x1))) (altK (g9 (0, [.i (a0), .i (a1)])) [fun r => asI r (fun x27 r => asE r (cond (Decidable.decide (x27 = Go.IntKind.wrap Go.IntKind.i64 (Go.IntKind.wrap Go.IntKind.i64 (Int.tdiv a0 x1) - (1 : Int)))) (altK (g8 (0, [.i (a0), .i (a1)])) [fun r => asI r (fun x28 r => asE r (cond (Decidable.decide (x28 = Go.IntKind.wrap Go.IntKind.i64 (Int.tdiv a0 x1))) (altK (awakeL (0, [])) [fun r => asB r (fun x29 r => asE r (some (0, [.b (x29)])) none) none] none) (some (0, [.b (Bool.false)]))) none) none] none) (some (0, [.b (Bool.false)]))) none) none] none) (some (0, [.b (Bool.false)]))) none) none] none)) (cond (Decidable.decide ((0 : Int) < a1)) (cond (Decidable.decide (Int.tmod a0 x1 < Go.IntKind.wrap Go.IntKind.i64 ((0 : Int) - Go.IntKind.wrap Go.IntKind.i64 (Int.tdiv x1 (2 : Int))))) (altK (g10 (0, [.i (a0), .i (a1)])) [fun r => asI r (fun x22 r => asE r (cond (Decidable.decide (x22 = Go.IntKind.wrap Go.IntKind.i64 (Int.tdiv a0 x1))) (altK (g9 (0, [.i (a0), .i (a1)])) [fun r => asI r (fun x23 r => asE r (cond (Decidable.decide (x23 = Go.IntKind.wrap Go.IntKind.i64 (Int.tdiv a0 x1))) (altK (g8 (0, [.i (a0), .i (a1)])) [fun r => asI r (fun x24 r => asE r (cond (Decidable.decide (x24 = Go.IntKind.wrap Go.IntKind.i64 (Go.IntKind.wrap Go.IntKind.i64 (Int.tdiv a0 x1) - (1 : Int)))) (altK (awakeL (0, [])) [fun r => asB r (fun x25 r => asE r (some (0, [.b (x25)])) none) none] none) (some (0, [.b (Bool.false)]))) none) none] none) (some (0, [.b (Bool.false)]))) none) none] none) (some (0, [.b (Bool.false)]))) none) none] none) (altK (g10 (0, [.i (a0), .i (a1)])) [fun r => asI r (fun x18 r => asE r (cond (Decidable.decide (x18 = Go.IntKind.wrap Go.IntKind.i64 (Int.tdiv a0 x1))) (altK (g9 (0, [.i (a0), .i (a1)])) [fun r => asI r (fun x19 r => asE r (cond (Decidable.decide (x19 = Go.IntKind.wrap Go.IntKind.i64 (Int.tdiv a0 x1))) (altK (g8 (0, [.i (a0), .i (a1)])) [fun r => asI r (fun x20 r => asE r (cond (Decidable.decide (x20 = Go.IntKind.wrap Go.IntKind.i64 (Int.tdiv a0 x1))) (altK (awakeL (0, [])) [fun r => asB r (fun x21 r => asE r (some (0, [.b (x21)])) none) none] none) (some (0, [.b (Bool.false)]))) none) none] none) (some (0, [.b (Bool.false)]))) none) none] none) (some (0, [.b (Bool.false)]))) none) none] none)) (altK (g10 (0, [.i (a0), .i (a1)])) [fun r => asI r (fun x14 r => asE r (cond (Decidable.decide (x14 = Go.IntKind.wrap Go.IntKind.i64 (Int.tdiv a0 x1))) (altK (g9 (0, [.i (a0), .i (a1)])) [fun r => asI r (fun x15 r => asE r (cond (Decidable.decide (x15 = Go.IntKind.wrap Go.IntKind.i64 (Int.tdiv a0 x1))) (altK (g8 (0, [.i (a0), .i (a1)])) [fun r => asI r (fun x16 r => asE r (cond (Decidable.decide (x16 = Go.IntKind.wrap Go.IntKind.i64 (Int.tdiv a0 x1))) (altK (awakeL (0, [])) [fun r => asB r (fun x17 r => asE r (some (0, [.b (x17)])) none) none] none) (some (0, [.b (Bool.false)]))) none) none] none) (some (0, [.b (Bool.false)]))) none) none] none) (some (0, [.b (Bool.false)]))) none) none] none))) (cond (Decidable.decide ((0 : Int) < a1)) (cond (Decidable.decide (Int.tmod a0 x1 < Go.IntKind.wrap Go.IntKind.i64 ((0 : Int) - Go.IntKind.wrap Go.IntKind.i64 (Int.tdiv x1 (2 : Int))))) (altK (g10 (0, [.i (a0), .i (a1)])) [fun r => asI r (fun x10 r => asE r (cond (Decidable.decide (x10 = Go.IntKind.wrap Go.IntKind.i64 (Int.tdiv a0 x1))) (altK (g9 (0, [.i (a0), .i (a1)])) [fun r => asI r (fun x11 r => asE r (cond (Decidable.decide (x11 = Go.IntKind.wrap Go.IntKind.i64 (Int.tdiv a0 x1))) (altK (g8 (0, [.i (a0), .i (a1)])) [fun r => asI r (fun x12 r => asE r (cond (Decidable.decide (x12 = Go.IntKind.wrap Go.IntKind.i64 (Go.IntKind.wrap Go.IntKind.i64 (Int.tdiv a0 x1) - (1 : Int)))) (altK (awakeL (0, [])) [fun r => asB r (fun x13 r => asE r (some (0, [.b (x13)])) none) none] none) (some (0, [.b (Bool.false)]))) none) none] none) (some (0, [.b (Bool.false)]))) none) none] none) (some (0, [.b (Bool.false)]))) none) none] none) (altK (g10 (0, [.i (a0), .i (a1)])) [fun r => asI r (fun x6 r => asE r (cond (Decidable.decide (x6 = Go.IntKind.wrap Go.IntKind.i64 (Int.tdiv a0 x1))) (altK (g9 (0, [.i (a0), .i (a1)])) [fun r => asI r (fun x7 r => asE r (cond (Decidable.decide (x7 = Go.IntKind.wrap Go.IntKind.i64 (Int.tdiv a0 x1))) (altK (g8 (0, [.i (a0), .i (a1)])) [fun r => asI r (fun x8 r => asE r (cond (Decidable.decide (x8 = Go.IntKind.wrap Go.IntKind.i64 (Int.tdiv a0 x1))) (altK (awakeL (0, [])) [fun r => asB r (fun x9 r => asE r (some (0, [.b (x9)])) none) none] none) (some (0, [.b (Bool.false)]))) none) none] none) (some (0, [.b (Bool.false)]))) none) none] none) (some (0, [.b (Bool.false)]))) none) none] none)) (altK (g10 (0, [.i (a0), .i (a1)])) [fun r => asI r (fun x2 r => asE r (cond (Decidable.decide (x2 = Go.IntKind.wrap Go.IntKind.i64 (Int.tdiv a0 x1))) (altK (g9 (0, [.i (a0), .i (a1)])) [fun r => asI r (fun x3 r => asE r (cond (Decidable.decide (x3 = Go.IntKind.wrap Go.IntKind.i64 (Int.tdiv a0 x1))) (altK (g8 (0, [.i (a0), .i (a1)])) [fun r => asI r (fun x4 r => asE r (cond (Decidable.decide (x4 = Go.IntKind.wrap Go.IntKind.i64 (Int.tdiv a0 x1))) (altK (awakeL (0, [])) [fun r => asB r (fun x5 r => asE r (some (0, [.b (x5)])) none) none] none) (some (0, [.b (Bool.false)]))) none) none] none) (some (0, [.b (Bool.false)]))) none) none] none) (some (0, [.b (Bool.false)]))) none) none] none)))) none) none] none))
def g3 (s : Nat × List Leaf) : Option (Nat × List Leaf) := match s.1 with
  | 0 => let r := s.2; asI r (fun a0 r => asI r (fun a1 r => asE r (g3_0 a0 a1) none) none) none
  | _ => none
def ent3 : Ent := ⟨ain3, aout3, g3⟩
def os3 : List Orc := []
theorem ok3 (n : Nat) : EntSound (evF tab (n + 21)) 3 ent3 :=
  fn_sound (n := n + 20) (ck3 n) (OK := okOf os3) (body := kc3) (show OrcsOk (okOf os3) (evF tab (n + 20)) kc3 from ⟨trivial, ⟨⟨trivial, ⟨⟨trivial, ⟨trivial, trivial⟩⟩, trivial⟩⟩, ⟨trivial, ⟨trivial, ⟨trivial, ⟨trivial, ⟨trivial, ⟨trivial, ⟨⟨trivial, ⟨⟨trivial, trivial⟩, trivial⟩⟩, ⟨⟨trivial, ⟨trivial, trivial⟩⟩, ⟨⟨trivial, ⟨trivial, trivial⟩⟩, ⟨trivial, ⟨trivial, trivial⟩⟩⟩⟩⟩⟩⟩⟩⟩⟩⟩⟩⟩) t3 (by kernel_rfl)
    (all_ins (Q := fun i sh => ∀ ls, fillA sh ls (fun args h => fnK (ckOf es3) (okOf os3) sf3 kc3 args h (findRes aout3 0) none) none = g3 (i, ls)) (l := ain3) ⟨fun ls => by kernel_rfl, trivial⟩)
/-! function 4 -/
def es4 : List (FuncId × Ent) := [(13, ent13), (11, awakeE)]
theorem ck4 (n : Nat) : CallKOk (ckOf es4) (evF tab (n + 20)) :=
  ckOf_cons (ok13 (n + 19)) (ckOf_cons (ok11 (n + 0)) (ckOf_nil))
def kc4_0 : KC := (.seq (.seq (.seq (.reg r4_5) (.cond (.t 12) .skip (.seq (.kill [2, 4, 7, 12, 18]) (.exit 0)))) (.block 1 (.seq (.reg r4_6) (.reg r4_7)))) (.kill [2, 7, 12, 18]))
def in4_0 : List SPat := [⟨[(0, (.int .i64)), (2, .unk), (3, (.int .i64)), (4, (.int .i64)), (7, .unk), (12, .unk), (18, .unk)], [], [], 0⟩]
def out4_0 : List (SX × SPat) := [((.exit 0), ⟨[(0, (.int .i64)), (2, .unk), (3, (.int .i64)), (4, .unk), (7, .unk), (12, .unk), (18, .unk)], [], [], 0⟩)]
def f4_0_0 (t0 : Int) (t3 : Int) (t4 : Int) : Option (Nat × List Leaf) :=
  cond (Decidable.decide ((0 : Int) < t4)) (some (0, [.i (t0), .i (Go.IntKind.wrap Go.IntKind.i64 (t3 + (1 : Int))), .i (Go.IntKind.wrap Go.IntKind.i64 (Int.tdiv t4 (2 : Int)))])) (some (1, [.i (t0), .i (t3)]))
def f4_0 (s : Nat × List Leaf) : Option (Nat × List Leaf) := match s.1 with
  | 0 => let r := s.2; asI r (fun t0 r => asI r (fun t3 r => asI r (fun t4 r => asE r (f4_0_0 t0 t3 t4) none) none) none) none
  | _ => none
def L4_0 (s : Nat × List Leaf) : Option (Nat × List Leaf) := loopL 1 f4_0 s
def orc4_0 : Orc := ⟨in4_0, out4_0, L4_0⟩
def os4_0 : List Orc := []
theorem snd4_0 (n : Nat) : OrcSound (evF tab (n + 20)) (.loop l4_8) orc4_0 :=
  loop_sound (b := kc4_0) (OK := okOf os4_0) (ck4 n) (show OrcsOk (okOf os4_0) (evF tab (n + 20)) kc4_0 from ⟨⟨⟨trivial, ⟨trivial, ⟨trivial, trivial⟩⟩⟩, ⟨trivial, trivial⟩⟩, trivial⟩) (ins := in4_0) (outs := out4_0) (f := f4_0) (by kernel_rfl)
    (all_ins (Q := fun i sh => ∀ ls, fillS sh ls (fun st => evK (ckOf es4) (okOf os4_0) kc4_0 st (findOut (in4_0.map (SX.normal, ·) ++ out4_0) 0) none) none = f4_0 (i, ls)) (l := in4_0) ⟨fun ls => by kernel_rfl, trivial⟩)
def kc4 : KC := (.seq (.reg r4_0) (.seq (.reg r4_1) (.seq (.reg r4_2) (.seq (.seq (.reg r4_3) (.cond (.t 7) (.reg r4_4) .skip)) (.seq (.block 0 (.seq (.kill [2, 7, 12, 18]) (.orc 0 (.loop l4_8)))) (.seq (.seq (.reg r4_9) (.cond (.t 18) (.reg r4_10) .skip)) (.seq (.reg r4_11) (.seq (.kill [0, 3, 4, 7, 12, 18]) .ret))))))))
def ain4 : List APat := [⟨[(.int .i64)], []⟩]
def aout4 : List RPat := [⟨.bool, [], []⟩]
def g4_0 (a0 : Int) : Option (Nat × List Leaf) :=
  cond (Decidable.decide (a0 < (0 : Int))) (altK (L4_0 (0, [.i (a0), .i ((0 : Int)), .i (Go.IntKind.wrap Go.IntKind.i64 ((0 : Int) - Go.IntKind.wrap Go.IntKind.i64 (a0 + (1 : Int))))])) [fun r => asI r (fun x13 r => asI r (fun x15 r => asE r (cond (Decidable.decide (x13 ≠ (0 : Int))) (altK (g13 (0, [.i (x13)])) [fun r => asI r (fun x23 r => asE r (cond (Decidable.decide (x23 = Go.IntKind.wrap Go.IntKind.i64 (x15 + (1 : Int)))) (altK (awakeL (0, [])) [fun r => asB r (fun x24 r => asE r (some (0, [.b (x24)])) none) none] none) (some (0, [.b (Bool.false)]))) none) none] none) (altK (g13 (0, [.i (x13)])) [fun r => asI r (fun x21 r => asE r (cond (Decidable.decide (x21 = x15)) (altK (awakeL (0, [])) [fun r => asB r (fun x22 r => asE r (some (0, [.b (x22)])) none) none] none) (some (0, [.b (Bool.false)]))) none) none] none)) none) none) none] none) (altK (L4_0 (0, [.i (a0), .i ((0 : Int)), .i (a0)])) [fun r => asI r (fun x1 r => asI r (fun x3 r => asE r (cond (Decidable.decide (x1 ≠ (0 : Int))) (altK (g13 (0, [.i (x1)])) [fun r => asI r (fun x11 r => asE r (cond (Decidable.decide (x11 = Go.IntKind.wrap Go.IntKind.i64 (x3 + (1 : Int)))) (altK (awakeL (0, [])) [fun r => asB r (fun x12 r => asE r (some (0, [.b (x12)])) none) none] none) (some (0, [.b (Bool.false)]))) none) none] none) (altK (g13 (0, [.i (x1)])) [fun r => asI r (fun x9 r => asE r (cond (Decidable.decide (x9 = x3)) (altK (awakeL (0, [])) [fun r => asB r (fun x10 r => asE r (some (0, [.b (x10)])) none) none] none) (some (0, [.b (Bool.false)]))) none) none] none)) none) none) none] none)
def g4 (s : Nat × List Leaf) : Option (Nat × List Leaf) := match s.1 with
  | 0 => let r := s.2; asI r (fun a0 r => asE r (g4_0 a0) none) none
  | _ => none
def ent4 : Ent := ⟨ain4, aout4, g4⟩
def os4 : List Orc := [orc4_0]
theorem ok4 (n : Nat) : EntSound (evF tab (n + 21)) 4 ent4 :=
  fn_sound (n := n + 20) (ck4 n) (OK := okOf os4) (body := kc4) (show OrcsOk (okOf os4) (evF tab (n + 20)) kc4 from ⟨trivial, ⟨trivial, ⟨trivial, ⟨⟨trivial, ⟨trivial, trivial⟩⟩, ⟨⟨trivial, (okOf_ok (os := os4) (i := 0) (o := orc4_0) rfl (snd4_0 n))⟩, ⟨⟨trivial, ⟨trivial, trivial⟩⟩, ⟨trivial, ⟨trivial, trivial⟩⟩⟩⟩⟩⟩⟩⟩) t4 (by kernel_rfl)
    (all_ins (Q := fun i sh => ∀ ls, fillA sh ls (fun args h => fnK (ckOf es4) (okOf os4) sf4 kc4 args h (findRes aout4 0) none) none = g4 (i, ls)) (l := ain4) ⟨fun ls => by kernel_rfl, trivial⟩)
/-! function 7 -/
def es7 : List (FuncId × Ent) := [(21, ent21), (17, ent17), (22, ent22), (23, ent23), (15, ent15), (24, ent24), (11, awakeE)]
theorem ck7 (n : Nat) : CallKOk (ckOf es7) (evF tab (n + 20)) :=
  ckOf_cons (ok21 (n + 19)) (ckOf_cons (ok17 (n + 19)) (ckOf_cons (ok22 (n + 19)) (ckOf_cons (ok23 (n + 17)) (ckOf_cons (ok15 (n + 19)) (ckOf_cons (ok24 (n + 18)) (ckOf_cons (ok11 (n + 0)) (ckOf_nil)))))))
def kc7_0 : KC := (.seq (.seq (.seq (.reg r7_5) (.cond (.t 14) .skip (.seq (.kill [2, 5, 8, 14, 29]) (.exit 0)))) (.seq (.block 1 (.seq (.reg r7_6) (.seq (.reg r7_7) (.cond (.t 29) (.reg r7_8) .skip)))) (.reg r7_9))) (.kill [2, 8, 14, 29]))
def in7_0 : List SPat := [⟨[(0, (.slice 0 (.c 0) .h 1)), (2, .unk), (3, (.int .i64)), (4, (.int .i64)), (5, (.int .i64)), (8, .unk), (14, .unk), (29, .unk)], [(false, (.ints .i64))], [], 1⟩]
def out7_0 : List (SX × SPat) := [((.exit 0), ⟨[(0, (.slice 0 (.c 0) .h 1)), (2, .unk), (3, (.int .i64)), (4, (.int .i64)), (5, .unk), (8, .unk), (14, .unk), (29, .unk)], [(false, (.ints .i64))], [], 1⟩)]
def f7_0_0 (t0n : Nat) (t3 : Int) (t4 : Int) (t5 : Int) (h0 : List Int) : Option (Nat × List Leaf) :=
  cond (Decidable.decide (t5 < (↑t0n : Int))) (if (0 : Int) ≤ t5 ∧ t5 < (↑t0n : Int) then optK (h0[Int.toNat t5]?) (fun x1 => altK (g21 (0, [.i (t3), .i (x1)])) [fun r => asI r (fun x2 r => asE r (if (0 : Int) ≤ t5 ∧ t5 < (↑t0n : Int) then optK (h0[Int.toNat t5]?) (fun x3 => altK (g17 (0, [.i (x3)])) [fun r => asI r (fun x4 r => asE r (cond (Decidable.decide (t4 < x4)) (if (0 : Int) ≤ t5 ∧ t5 < (↑t0n : Int) then optK (h0[Int.toNat t5]?) (fun x5 => altK (g17 (0, [.i (x5)])) [fun r => asI r (fun x6 r => asE r (some (0, [.n (t0n), .i (x2), .i (x6), .i (Go.IntKind.wrap Go.IntKind.i64 (t5 + (1 : Int))), .l (h0)])) none) none] none) (none) else none) (some (0, [.n (t0n), .i (x2), .i (t4), .i (Go.IntKind.wrap Go.IntKind.i64 (t5 + (1 : Int))), .l (h0)]))) none) none] none) (none) else none) none) none] none) (none) else none) (some (1, [.n (t0n), .i (t3), .i (t4), .l (h0)]))
def f7_0 (s : Nat × List Leaf) : Option (Nat × List Leaf) := match s.1 with
  | 0 => let r := s.2; asN r (fun t0n r => asI r (fun t3 r => asI r (fun t4 r => asI r (fun t5 r => asL r (fun h0 r => asE r (f7_0_0 t0n t3 t4 t5 h0) none) none) none) none) none) none
  | _ => none
def L7_0 (s : Nat × List Leaf) : Option (Nat × List Leaf) := loopL 1 f7_0 s
def orc7_0 : Orc := ⟨in7_0, out7_0, L7_0⟩
def os7_0 : List Orc := []
theorem snd7_0 (n : Nat) : OrcSound (evF tab (n + 20)) (.loop l7_10) orc7_0 :=
  loop_sound (b := kc7_0) (OK := okOf os7_0) (ck7 n) (show OrcsOk (okOf os7_0) (evF tab (n + 20)) kc7_0 from ⟨⟨⟨trivial, ⟨trivial, ⟨trivial, trivial⟩⟩⟩, ⟨⟨trivial, ⟨trivial, ⟨trivial, trivial⟩⟩⟩, trivial⟩⟩, trivial⟩) (ins := in7_0) (outs := out7_0) (f := f7_0) (by kernel_rfl)
    (all_ins (Q := fun i sh => ∀ ls, fillS sh ls (fun st => evK (ckOf es7) (okOf os7_0) kc7_0 st (findOut (in7_0.map (SX.normal, ·) ++ out7_0) 0) none) none = f7_0 (i, ls)) (l := in7_0) ⟨fun ls => by kernel_rfl, trivial⟩)
def kc7 : KC := (.seq (.reg r7_0) (.seq (.seq (.reg r7_1) (.cond (.t 8) (.reg r7_2) .skip)) (.seq (.reg r7_3) (.seq (.seq (.reg r7_4) (.block 0 (.seq (.kill [2, 8, 14, 29]) (.orc 0 (.loop l7_10))))) (.seq (.reg r7_11) (.seq (.kill [0, 3, 4, 5, 8, 14, 29]) .ret))))))
def ain7 : List APat := [⟨[(.slice 0 (.c 0) .h 1)], [(false, (.ints .i64))]⟩]
def aout7 : List RPat := [⟨.bool, [(false, (.ints .i64))], []⟩]
def g7_0 (a0n : Nat) (h0 : List Int) : Option (Nat × List Leaf) :=
  cond (Decidable.decide ((50 : Int) < (↑a0n : Int))) (if (0 : Int) ≤ (50 : Int) ∧ (50 : Int) ≤ (↑a0n : Int) then altK (L7_0 (0, [.n ((50 : Nat)), .i ((0 : Int)), .i ((0 : Int)), .i ((0 : Int)), .l (h0)])) [fun r => asN r (fun x15n r => asI r (fun x17 r => asI r (fun x18 r => asL r (fun x23h0 r => asE r (altK (g22 (0, [.n (x15n), .l (x23h0)])) [fun r => asI r (fun x24 r => asL r (fun x24h0 r => asE r (cond (Decidable.decide (x24 = x17)) (altK (g23 (0, [.n (x15n), .l (x24h0)])) [fun r => asI r (fun x25 r => asL r (fun x25h0 r => asE r (altK (g15 (0, [.i (x17), .i ((-32768 : Int)), .i ((32767 : Int))])) [fun r => asI r (fun x26 r => asE r (cond (Decidable.decide (x25 = x26)) (altK (g24 (0, [.n (x15n), .l (x25h0)])) [fun r => asI r (fun x27 r => asL r (fun x27h0 r => asE r (cond (Decidable.decide (x27 = x18)) (altK (awakeL (0, [])) [fun r => asB r (fun x28 r => asE r (some (0, [.b (x28), .l (x27h0)])) none) none] none) (some (0, [.b (Bool.false), .l (x27h0)]))) none) none) none] none) (some (0, [.b (Bool.false), .l (x25h0)]))) none) none] none) none) none) none] none) (some (0, [.b (Bool.false), .l (x24h0)]))) none) none) none] none) none) none) none) none) none] none else none) (altK (L7_0 (0, [.n (a0n), .i ((0 : Int)), .i ((0 : Int)), .i ((0 : Int)), .l (h0)])) [fun r => asN r (fun x1n r => asI r (fun x3 r => asI r (fun x4 r => asL r (fun x9h0 r => asE r (altK (g22 (0, [.n (x1n), .l (x9h0)])) [fun r => asI r (fun x10 r => asL r (fun x10h0 r => asE r (cond (Decidable.decide (x10 = x3)) (altK (g23 (0, [.n (x1n), .l (x10h0)])) [fun r => asI r (fun x11 r => asL r (fun x11h0 r => asE r (altK (g15 (0, [.i (x3), .i ((-32768 : Int)), .i ((32767 : Int))])) [fun r => asI r (fun x12 r => asE r (cond (Decidable.decide (x11 = x12)) (altK (g24 (0, [.n (x1n), .l (x11h0)])) [fun r => asI r (fun x13 r => asL r (fun x13h0 r => asE r (cond (Decidable.decide (x13 = x4)) (altK (awakeL (0, [])) [fun r => asB r (fun x14 r => asE r (some (0, [.b (x14), .l (x13h0)])) none) none] none) (some (0, [.b (Bool.false), .l (x13h0)]))) none) none) none] none) (some (0, [.b (Bool.false), .l (x11h0)]))) none) none] none) none) none) none] none) (some (0, [.b (Bool.false), .l (x10h0)]))) none) none) none] none) none) none) none) none) none] none)
def g7 (s : Nat × List Leaf) : Option (Nat × List Leaf) := match s.1 with
  | 0 => let r := s.2; asN r (fun a0n r => asL r (fun h0 r => asE r (g7_0 a0n h0) none) none) none
  | _ => none
def ent7 : Ent := ⟨ain7, aout7, g7⟩
def os7 : List Orc := [orc7_0]
theorem ok7 (n : Nat) : EntSound (evF tab (n + 21)) 7 ent7 :=
  fn_sound (n := n + 20) (ck7 n) (OK := okOf os7) (body := kc7) (show OrcsOk (okOf os7) (evF tab (n + 20)) kc7 from ⟨trivial, ⟨⟨trivial, ⟨trivial, trivial⟩⟩, ⟨trivial, ⟨⟨trivial, ⟨trivial, (okOf_ok (os := os7) (i := 0) (o := orc7_0) rfl (snd7_0 n))⟩⟩, ⟨trivial, ⟨trivial, trivial⟩⟩⟩⟩⟩⟩) t7 (by kernel_rfl)
    (all_ins (Q := fun i sh => ∀ ls, fillA sh ls (fun args h => fnK (ckOf es7) (okOf os7) sf7 kc7 args h (findRes aout7 0) none) none = g7 (i, ls)) (l := ain7) ⟨fun ls => by kernel_rfl, trivial⟩)
end Go.Proofs.Ythgmblahjndpaaa
