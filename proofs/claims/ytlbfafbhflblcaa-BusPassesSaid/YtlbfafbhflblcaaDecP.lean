/-
  Functions of this seat as functions of leaves, by program, and that the abstract machine answers as they do. Conditions: none.
-/
import Derived.Test.YtlbfafbhflblcaaTab
import Derived.Test.YtlbfafbhflblcaaSxW
import Derived.KernelRfl
namespace Go.Proofs.Ytlbfafbhflblcaa.P
open Go Go.Sx
set_option maxRecDepth 100000
set_option linter.unusedVariables false
abbrev pI : Pat := .int .i64
abbrev pF0 : Pat := .agg [(.slice 1 (.c 0) .h 14), pI, pI, pI, pI, pI, pI, pI, pI, pI, pI, pI, pI, pI, pI, pI, pI, pI, pI, pI]
abbrev pF1 : Pat := .agg [.nils, pI, pI, pI, pI, pI, pI, pI, pI, pI, pI, pI, pI, pI, pI, pI, pI, pI, pI, pI]
abbrev pF2 : Pat := .agg [pI, pI, pI, pI, pI, pI, pI, pI, pI, pI, (.slice 1 (.c 0) .h 1), (.slice 4 (.c 0) .h 1)]
abbrev pF3 : Pat := .agg [pI, pI, pI, pI, pI, pI, pI, pI, pI, pI, (.ptr 1 (.c 0)), (.ptr 2 (.c 0)), (.ptr 3 (.c 0)), (.ptr 5 (.c 0))]
abbrev pF4 : Pat := .agg [pI, pI, pI, pI, pI, pI, pI, pI, pI, pI, (.slice 1 (.c 0) (.c 2) 1), (.slice 4 (.c 0) (.c 2) 1)]
abbrev pF5 : Pat := .agg [pI, pI, pI, pI, pI, pI, pI, pI, pI, pI, (.ptr 1 (.c 0)), (.ptr 2 (.c 0)), .nilp, .nilp]
abbrev pF6 : Pat := .agg [pI, pI, pI, pI, pI, pI, pI, pI, pI, pI, .nilp, .nilp, (.ptr 1 (.c 0)), (.ptr 3 (.c 0))]
abbrev pF7 : Pat := .agg [pI, pI, pI, pI, pI, pI, pI, pI, pI, pI, (.slice 2 (.c 0) .h 1), (.slice 5 (.c 0) .h 1)]
def es40 : List (FuncId × Ent × List (List Bool)) := []
theorem ck40 (n : Nat) : Zx (Zz es40) (evF tab (n + 0)) :=
  Zu
def kc40 : KC := (.seq (.reg r40_0) (.seq (.block 0 (.seq (.reg r40_1) (.cond (.t 7) (.seq (.reg r40_2) (.seq (.kill [0, 1, 2, 7, 17]) .ret)) (.seq (.reg r40_3) (.cond (.t 17) (.seq (.reg r40_4) (.seq (.kill [0, 1, 2, 7, 17]) .ret)) .skip))))) (.seq (.reg r40_5) (.seq (.kill [0, 1, 2, 7, 17]) .ret))))
def ain40 : List APat := [⟨[pI, pI, pI], []⟩]
def aout40 : List RPat := [⟨pI, [], []⟩]
def g40_0 (b a c : Int) : Option (Nat × List Leaf) :=
  cond (decide (b < a)) (some (0, [.i a])) (cond (decide (c < a)) (some (0, [.i a])) (cond (decide (c < b)) (some (0, [.i c])) (some (0, [.i b]))))
def g40 (s : Nat × List Leaf) : Option (Nat × List Leaf) := match s.1 with
  | 0 => let r := s.2; asI r (fun a r => asI r (fun b r => asI r (fun c r => asE r (g40_0 a b c) none) none) none) none
  | _ => none
def ent40 : Ent := ⟨ain40, aout40, g40⟩
def os40 : List (Orc × List (List Bool)) := []
theorem ok40 (n : Nat) : Zq (evF tab (n + 1)) 40 ent40 :=
  ZC (n := n + 0) (ck40 n) (OK := Zg os40) (body := kc40) (show Zy (Zg os40) (evF tab (n + 0)) kc40 from ⟨trivial, ⟨⟨trivial, ⟨⟨trivial, ⟨trivial, trivial⟩⟩, ⟨trivial, ⟨⟨trivial, ⟨trivial, trivial⟩⟩, trivial⟩⟩⟩⟩, ⟨trivial, ⟨trivial, trivial⟩⟩⟩⟩) t40 (by kernel_rfl)
    (Zs (Q := fun i sh => ∀ ls, Zah sh ls (fun args h => fnK (Zz es40) (Zg os40) sf40 kc40 args h (ZE aout40 0) none) none = g40 (i, ls)) (l := ain40) ⟨fun ls => by kernel_rfl, trivial⟩)
def es31 : List (FuncId × Ent × List (List Bool)) := [(40, ent40, [[true]])]
theorem ck31 (n : Nat) : Zx (Zz es31) (evF tab (n + 1)) :=
  Zf (ok40 (n + 0)) (Zu)
def kc31 : KC := (.seq (.reg r31_0) (.seq (.reg r31_1) (.seq (.kill [0]) .ret)))
def ain31 : List APat := [⟨[pI], []⟩]
def aout31 : List RPat := [⟨pI, [], []⟩]
def g31_0 (a : Int) : Option (Nat × List Leaf) :=
  altK (g40 (0, [.i a, .i ((-32768 : Int)), .i ((32767 : Int))])) [fun r => asI r (fun b r => asE r (some (0, [.i b])) none) none] none
def g31 (s : Nat × List Leaf) : Option (Nat × List Leaf) := match s.1 with
  | 0 => let r := s.2; asI r (fun a r => asE r (g31_0 a) none) none
  | _ => none
def ent31 : Ent := ⟨ain31, aout31, g31⟩
def os31 : List (Orc × List (List Bool)) := []
theorem ok31 (n : Nat) : Zq (evF tab (n + 2)) 31 ent31 :=
  ZC (n := n + 1) (ck31 n) (OK := Zg os31) (body := kc31) (show Zy (Zg os31) (evF tab (n + 1)) kc31 from ⟨trivial, ⟨trivial, ⟨trivial, trivial⟩⟩⟩) t31 (by kernel_rfl)
    (Zs (Q := fun i sh => ∀ ls, Zah sh ls (fun args h => fnK (Zz es31) (Zg os31) sf31 kc31 args h (ZE aout31 0) none) none = g31 (i, ls)) (l := ain31) ⟨fun ls => by kernel_rfl, trivial⟩)
def es41 : List (FuncId × Ent × List (List Bool)) := []
theorem ck41 (n : Nat) : Zx (Zz es41) (evF tab (n + 0)) :=
  Zu
def kc41 : KC := (.seq (.reg r41_0) (.seq (.block 0 (.seq (.reg r41_1) (.cond (.t 5) (.seq (.reg r41_2) (.seq (.kill [0, 1, 5, 12]) .ret)) (.seq (.reg r41_3) (.cond (.t 12) (.seq (.reg r41_4) (.seq (.kill [0, 1, 5, 12]) .ret)) .skip))))) (.seq (.reg r41_5) (.seq (.kill [0, 1, 5, 12]) .ret))))
def ain41 : List APat := [⟨[pI, pI], []⟩]
def aout41 : List RPat := [⟨pI, [], []⟩]
def g41_0 (b a : Int) : Option (Nat × List Leaf) :=
  cond (decide (a < 0)) (some (0, [.i (0)])) (cond (decide ((62 : Int) < a)) (some (0, [.i (0)])) (cond (decide (a = 0)) (some (0, [.i b])) (if a < 0 then none else if IntKind.wrap IntKind.i64 (a - (1 : Int)) < 0 then none else some (0, [.i (IntKind.wrap IntKind.i64 (shrI IntKind.i64 b a + bAnd IntKind.i64 (shrI IntKind.i64 b (IntKind.wrap IntKind.i64 (a - (1 : Int)))) (1 : Int)))]))))
def g41 (s : Nat × List Leaf) : Option (Nat × List Leaf) := match s.1 with
  | 0 => let r := s.2; asI r (fun a r => asI r (fun b r => asE r (g41_0 a b) none) none) none
  | _ => none
def ent41 : Ent := ⟨ain41, aout41, g41⟩
def os41 : List (Orc × List (List Bool)) := []
theorem ok41 (n : Nat) : Zq (evF tab (n + 1)) 41 ent41 :=
  ZC (n := n + 0) (ck41 n) (OK := Zg os41) (body := kc41) (show Zy (Zg os41) (evF tab (n + 0)) kc41 from ⟨trivial, ⟨⟨trivial, ⟨⟨trivial, ⟨trivial, trivial⟩⟩, ⟨trivial, ⟨⟨trivial, ⟨trivial, trivial⟩⟩, trivial⟩⟩⟩⟩, ⟨trivial, ⟨trivial, trivial⟩⟩⟩⟩) t41 (by kernel_rfl)
    (Zs (Q := fun i sh => ∀ ls, Zah sh ls (fun args h => fnK (Zz es41) (Zg os41) sf41 kc41 args h (ZE aout41 0) none) none = g41 (i, ls)) (l := ain41) ⟨fun ls => by kernel_rfl, trivial⟩)
def es36 : List (FuncId × Ent × List (List Bool)) := []
theorem ck36 (n : Nat) : Zx (Zz es36) (evF tab (n + 0)) :=
  Zu
def kc36 : KC := (.seq (.reg r36_0) (.seq (.seq (.reg r36_1) (.cond (.t 7) (.seq (.reg r36_2) (.seq (.kill [0, 1, 5, 7, 14]) .ret)) .skip)) (.seq (.reg r36_3) (.seq (.seq (.reg r36_4) (.cond (.t 14) (.reg r36_5) .skip)) (.seq (.reg r36_6) (.seq (.kill [0, 1, 5, 7, 14]) .ret))))))
def ain36 : List APat := [⟨[pI, pI], []⟩]
def aout36 : List RPat := [⟨pI, [], []⟩]
def g36_0 (b a : Int) : Option (Nat × List Leaf) :=
  cond (decide (a < (1 : Int))) (some (0, [.i (0)])) (if a = 0 then none else if a = 0 then none else cond (decide (Int.tmod b a < 0)) (some (0, [.i (IntKind.wrap IntKind.i64 (IntKind.wrap IntKind.i64 (Int.tdiv b a) - (1 : Int)))])) (some (0, [.i (IntKind.wrap IntKind.i64 (Int.tdiv b a))])))
def g36 (s : Nat × List Leaf) : Option (Nat × List Leaf) := match s.1 with
  | 0 => let r := s.2; asI r (fun a r => asI r (fun b r => asE r (g36_0 a b) none) none) none
  | _ => none
def ent36 : Ent := ⟨ain36, aout36, g36⟩
def os36 : List (Orc × List (List Bool)) := []
theorem ok36 (n : Nat) : Zq (evF tab (n + 1)) 36 ent36 :=
  ZC (n := n + 0) (ck36 n) (OK := Zg os36) (body := kc36) (show Zy (Zg os36) (evF tab (n + 0)) kc36 from ⟨trivial, ⟨⟨trivial, ⟨⟨trivial, ⟨trivial, trivial⟩⟩, trivial⟩⟩, ⟨trivial, ⟨⟨trivial, ⟨trivial, trivial⟩⟩, ⟨trivial, ⟨trivial, trivial⟩⟩⟩⟩⟩⟩) t36 (by kernel_rfl)
    (Zs (Q := fun i sh => ∀ ls, Zah sh ls (fun args h => fnK (Zz es36) (Zg os36) sf36 kc36 args h (ZE aout36 0) none) none = g36 (i, ls)) (l := ain36) ⟨fun ls => by kernel_rfl, trivial⟩)
def es29 : List (FuncId × Ent × List (List Bool)) := []
theorem ck29 (n : Nat) : Zx (Zz es29) (evF tab (n + 0)) :=
  Zu
def kc29 : KC := (.seq (.reg r29_0) (.seq (.block 0 (.seq (.reg r29_1) (.cond (.t 3) (.seq (.reg r29_2) (.seq (.kill [0, 3, 6]) .ret)) (.seq (.reg r29_3) (.cond (.t 6) (.seq (.reg r29_4) (.seq (.kill [0, 3, 6]) .ret)) .skip))))) (.seq (.reg r29_5) (.seq (.kill [0, 3, 6]) .ret))))
def ain29 : List APat := [⟨[pI], []⟩]
def aout29 : List RPat := [⟨pI, [], []⟩]
def g29_0 (a : Int) : Option (Nat × List Leaf) :=
  cond (decide (a = (-9223372036854775808 : Int))) (some (0, [.i ((9223372036854775807 : Int))])) (cond (decide (a < 0)) (some (0, [.i (IntKind.wrap IntKind.i64 (0 - a))])) (some (0, [.i a])))
def g29 (s : Nat × List Leaf) : Option (Nat × List Leaf) := match s.1 with
  | 0 => let r := s.2; asI r (fun a r => asE r (g29_0 a) none) none
  | _ => none
def ent29 : Ent := ⟨ain29, aout29, g29⟩
def os29 : List (Orc × List (List Bool)) := []
theorem ok29 (n : Nat) : Zq (evF tab (n + 1)) 29 ent29 :=
  ZC (n := n + 0) (ck29 n) (OK := Zg os29) (body := kc29) (show Zy (Zg os29) (evF tab (n + 0)) kc29 from ⟨trivial, ⟨⟨trivial, ⟨⟨trivial, ⟨trivial, trivial⟩⟩, ⟨trivial, ⟨⟨trivial, ⟨trivial, trivial⟩⟩, trivial⟩⟩⟩⟩, ⟨trivial, ⟨trivial, trivial⟩⟩⟩⟩) t29 (by kernel_rfl)
    (Zs (Q := fun i sh => ∀ ls, Zah sh ls (fun args h => fnK (Zz es29) (Zg os29) sf29 kc29 args h (ZE aout29 0) none) none = g29 (i, ls)) (l := ain29) ⟨fun ls => by kernel_rfl, trivial⟩)
def es32 : List (FuncId × Ent × List (List Bool)) := []
theorem ck32 (n : Nat) : Zx (Zz es32) (evF tab (n + 0)) :=
  Zu
def kc32_0 : KC := (.seq (.seq (.reg r32_3) (.seq (.cond (.t 10) .skip (.seq (.kill [0, 2, 5, 6, 7, 8, 9, 10, 17, 28]) (.exit 0))) (.seq (.block 1 (.seq (.reg r32_4) (.seq (.reg r32_5) (.block 2 (.seq (.reg r32_6) (.cond (.t 17) (.reg r32_7) (.seq (.reg r32_8) (.cond (.t 28) (.reg r32_9) (.reg r32_10))))))))) (.reg r32_11)))) (.kill [0, 2, 5, 6, 10, 17, 28]))
def in32_0 : List SPat := [⟨[(0, .unk), (2, .unk), (3, pI), (5, .unk), (6, .unk), (7, (.slice 0 (.c 0) .h 1)), (8, pI), (9, pI), (10, .unk), (17, .unk), (28, .unk)], [(true, (.ints .i64))], [], 1⟩]
def out32_0 : List (SX × SPat) := [((.exit 0), ⟨[(0, .unk), (2, .unk), (3, pI), (5, .unk), (6, .unk), (7, .unk), (8, .unk), (9, .unk), (10, .unk), (17, .unk), (28, .unk)], [(true, (.ints .i64))], [], 1⟩)]
def f32_0_0 (a : Int) (e : Nat) (f b : Int) (d : List Int) : Option (Nat × List Leaf) :=
  cond (decide (b < f)) (if 0 ≤ b ∧ b < (↑e : Int) then optK (d[Int.toNat b]?) (fun c => cond (decide (0 < a)) (cond (decide (0 < c)) (cond (decide (IntKind.wrap IntKind.i64 (a + c) < 0)) (some (0, [.i ((9223372036854775807 : Int)), .n e, .i f, .i (IntKind.wrap IntKind.i64 (b + (1 : Int))), .l d])) (cond (decide (a < 0)) (cond (decide (c < 0)) (cond (decide (0 ≤ IntKind.wrap IntKind.i64 (a + c))) (some (0, [.i ((-9223372036854775808 : Int)), .n e, .i f, .i (IntKind.wrap IntKind.i64 (b + (1 : Int))), .l d])) (some (0, [.i (IntKind.wrap IntKind.i64 (a + c)), .n e, .i f, .i (IntKind.wrap IntKind.i64 (b + (1 : Int))), .l d]))) (some (0, [.i (IntKind.wrap IntKind.i64 (a + c)), .n e, .i f, .i (IntKind.wrap IntKind.i64 (b + (1 : Int))), .l d]))) (some (0, [.i (IntKind.wrap IntKind.i64 (a + c)), .n e, .i f, .i (IntKind.wrap IntKind.i64 (b + (1 : Int))), .l d])))) (cond (decide (a < 0)) (cond (decide (c < 0)) (cond (decide (0 ≤ IntKind.wrap IntKind.i64 (a + c))) (some (0, [.i ((-9223372036854775808 : Int)), .n e, .i f, .i (IntKind.wrap IntKind.i64 (b + (1 : Int))), .l d])) (some (0, [.i (IntKind.wrap IntKind.i64 (a + c)), .n e, .i f, .i (IntKind.wrap IntKind.i64 (b + (1 : Int))), .l d]))) (some (0, [.i (IntKind.wrap IntKind.i64 (a + c)), .n e, .i f, .i (IntKind.wrap IntKind.i64 (b + (1 : Int))), .l d]))) (some (0, [.i (IntKind.wrap IntKind.i64 (a + c)), .n e, .i f, .i (IntKind.wrap IntKind.i64 (b + (1 : Int))), .l d])))) (cond (decide (a < 0)) (cond (decide (c < 0)) (cond (decide (0 ≤ IntKind.wrap IntKind.i64 (a + c))) (some (0, [.i ((-9223372036854775808 : Int)), .n e, .i f, .i (IntKind.wrap IntKind.i64 (b + (1 : Int))), .l d])) (some (0, [.i (IntKind.wrap IntKind.i64 (a + c)), .n e, .i f, .i (IntKind.wrap IntKind.i64 (b + (1 : Int))), .l d]))) (some (0, [.i (IntKind.wrap IntKind.i64 (a + c)), .n e, .i f, .i (IntKind.wrap IntKind.i64 (b + (1 : Int))), .l d]))) (some (0, [.i (IntKind.wrap IntKind.i64 (a + c)), .n e, .i f, .i (IntKind.wrap IntKind.i64 (b + (1 : Int))), .l d])))) (none) else none) (some (1, [.i a, .l d]))
def f32_0 (s : Nat × List Leaf) : Option (Nat × List Leaf) := match s.1 with
  | 0 => let r := s.2; asI r (fun a r => asN r (fun b r => asI r (fun c r => asI r (fun d r => asL r (fun e r => asE r (f32_0_0 a b c d e) none) none) none) none) none) none
  | _ => none
def Zna (s : Nat × List Leaf) : Option (Nat × List Leaf) := ZbN 1 f32_0 s
def orc32_0 : Orc := ⟨in32_0, out32_0, Zna⟩
def os32_0 : List (Orc × List (List Bool)) := []
theorem snd32_0 (n : Nat) : ZU (evF tab (n + 0)) (.loop l32_12) orc32_0 :=
  ZX (b := kc32_0) (OK := Zg os32_0) (ck32 n) (show Zy (Zg os32_0) (evF tab (n + 0)) kc32_0 from ⟨⟨trivial, ⟨⟨trivial, ⟨trivial, trivial⟩⟩, ⟨⟨trivial, ⟨trivial, ⟨trivial, ⟨trivial, ⟨trivial, ⟨trivial, trivial⟩⟩⟩⟩⟩⟩, trivial⟩⟩⟩, trivial⟩) (ins := in32_0) (outs := out32_0) (f := f32_0) (by kernel_rfl)
    (Zs (Q := fun i sh => ∀ ls, ZaJ sh ls (fun st => evK (Zz es32) (Zg os32_0) kc32_0 st (ZV (in32_0.map (SX.normal, ·) ++ out32_0) 0) none) none = f32_0 (i, ls)) (l := in32_0) ⟨fun ls => by kernel_rfl, trivial⟩)
def kc32 : KC := (.seq (.reg r32_0) (.seq (.reg r32_1) (.seq (.seq (.reg r32_2) (.block 0 (.seq (.kill [0, 2, 5, 6, 10, 17, 28]) (.orc 0 (.loop l32_12))))) (.seq (.reg r32_13) (.seq (.kill [0, 3, 5, 6, 7, 8, 9, 10, 17, 28]) .ret)))))
def ain32 : List APat := [⟨[(.slice 0 (.c 0) .h 1)], [(true, (.ints .i64))]⟩]
def aout32 : List RPat := [⟨pI, [(true, (.ints .i64))], []⟩]
def g32_0 (a : Nat) (b : List Int) : Option (Nat × List Leaf) :=
  altK (Zna (0, [.i (0), .n a, .i ((↑a : Int)), .i (0), .l b])) [fun r => asI r (fun c r => asL r (fun d r => asE r (some (0, [.i c, .l d])) none) none) none] none
def g32 (s : Nat × List Leaf) : Option (Nat × List Leaf) := match s.1 with
  | 0 => let r := s.2; asN r (fun a r => asL r (fun b r => asE r (g32_0 a b) none) none) none
  | _ => none
def ent32 : Ent := ⟨ain32, aout32, g32⟩
def os32 : List (Orc × List (List Bool)) := [(orc32_0, [[true]])]
theorem ok32 (n : Nat) : Zq (evF tab (n + 1)) 32 ent32 :=
  ZC (n := n + 0) (ck32 n) (OK := Zg os32) (body := kc32) (show Zy (Zg os32) (evF tab (n + 0)) kc32 from ⟨trivial, ⟨trivial, ⟨⟨trivial, ⟨trivial, (Z2 (os := os32) (i := 0) (o := orc32_0) rfl (snd32_0 n))⟩⟩, ⟨trivial, ⟨trivial, trivial⟩⟩⟩⟩⟩) t32 (by kernel_rfl)
    (Zs (Q := fun i sh => ∀ ls, Zah sh ls (fun args h => fnK (Zz es32) (Zg os32) sf32 kc32 args h (ZE aout32 0) none) none = g32 (i, ls)) (l := ain32) ⟨fun ls => by kernel_rfl, trivial⟩)
def es24 : List (FuncId × Ent × List (List Bool)) := []
theorem ck24 (n : Nat) : Zx (Zz es24) (evF tab (n + 0)) :=
  Zu
def kc24_0 : KC := (.seq (.seq (.reg r24_2) (.seq (.cond (.t 17) .skip (.seq (.kill [0, 1, 2, 4, 15, 16, 17, 24]) (.exit 0))) (.seq (.block 1 (.seq (.reg r24_3) (.seq (.reg r24_4) (.cond (.t 24) (.seq (.reg r24_5) (.seq (.kill [0, 1, 4, 15, 16, 17, 24]) .ret)) .skip)))) (.reg r24_6)))) (.kill [0, 1, 2, 4, 17, 24]))
def in24_0 : List SPat := [⟨[(0, .unk), (1, .unk), (2, .unk), (4, .unk), (15, (.intsE .i64 5)), (16, pI), (17, .unk), (24, .unk)], [(true, (.intsE .i64 5))], [], 0⟩]
def out24_0 : List (SX × SPat) := [((.exit 0), ⟨[(0, .unk), (1, .unk), (2, .unk), (4, .unk), (15, .unk), (16, .unk), (17, .unk), (24, .unk)], [(true, (.intsE .i64 5))], [], 0⟩), (.ret, ⟨[(0, .unk), (1, .unk), (2, (.cbool false)), (4, .unk), (15, .unk), (16, .unk), (17, .unk), (24, .unk)], [(true, (.intsE .i64 5))], [], 0⟩)]
def f24_0_0 (g h i j k a b c d e f : Int) : Option (Nat × List Leaf) :=
  cond (decide (a < (5 : Int))) (if 0 ≤ a ∧ a < (5 : Int) then optK ([g, h, i, j, k][Int.toNat a]?) (fun l => cond (decide (l < (-32768 : Int))) (some (2, I4 b c d e [.i f])) (cond (decide ((32768 : Int) < l)) (some (2, I4 b c d e [.i f])) (some (0, I8 g h i j k (IntKind.wrap IntKind.i64 (a + (1 : Int))) b c [.i d, .i e, .i f])))) (none) else none) (some (1, I4 b c d e [.i f]))
def f24_0 (s : Nat × List Leaf) : Option (Nat × List Leaf) := match s.1 with
  | 0 => let r := s.2; asI8 r (fun a b c d e f g h r => asI r (fun i r => asI r (fun j r => asI r (fun k r => asE r (f24_0_0 a b c d e f g h i j k) none) none) none) none) none
  | _ => none
def Znb (s : Nat × List Leaf) : Option (Nat × List Leaf) := ZbN 1 f24_0 s
def orc24_0 : Orc := ⟨in24_0, out24_0, Znb⟩
def os24_0 : List (Orc × List (List Bool)) := []
theorem snd24_0 (n : Nat) : ZU (evF tab (n + 0)) (.loop l24_7) orc24_0 :=
  ZX (b := kc24_0) (OK := Zg os24_0) (ck24 n) (show Zy (Zg os24_0) (evF tab (n + 0)) kc24_0 from ⟨⟨trivial, ⟨⟨trivial, ⟨trivial, trivial⟩⟩, ⟨⟨trivial, ⟨trivial, ⟨⟨trivial, ⟨trivial, trivial⟩⟩, trivial⟩⟩⟩, trivial⟩⟩⟩, trivial⟩) (ins := in24_0) (outs := out24_0) (f := f24_0) (by kernel_rfl)
    (Zs (Q := fun i sh => ∀ ls, ZaJ sh ls (fun st => evK (Zz es24) (Zg os24_0) kc24_0 st (ZV (in24_0.map (SX.normal, ·) ++ out24_0) 0) none) none = f24_0 (i, ls)) (l := in24_0) ⟨fun ls => by kernel_rfl, trivial⟩)
def kc24 : KC := (.seq (.reg r24_0) (.seq (.seq (.reg r24_1) (.block 0 (.seq (.kill [0, 1, 2, 4, 17, 24]) (.orc 0 (.loop l24_7))))) (.seq (.reg r24_8) (.seq (.kill [0, 1, 4, 15, 16, 17, 24]) .ret))))
def ain24 : List APat := [⟨[(.intsE .i64 5)], []⟩]
def aout24 : List RPat := [⟨.bool, [], []⟩]
def g24_0 (a b c d e : Int) : Option (Nat × List Leaf) :=
  altK (Znb (0, I8 a b c d e (0) a b [.i c, .i d, .i e])) [fun r => asI4 r (fun f g h i r => asI r (fun j r => asE r (some (0, [.b (Bool.true)])) none) none) none, fun r => asI4 r (fun k l m n r => asI r (fun o r => asE r (some (0, [.b (Bool.false)])) none) none) none] none
def g24 (s : Nat × List Leaf) : Option (Nat × List Leaf) := match s.1 with
  | 0 => let r := s.2; asI4 r (fun a b c d r => asI r (fun e r => asE r (g24_0 a b c d e) none) none) none
  | _ => none
def ent24 : Ent := ⟨ain24, aout24, g24⟩
def os24 : List (Orc × List (List Bool)) := [(orc24_0, [[true, true]])]
theorem ok24 (n : Nat) : Zq (evF tab (n + 1)) 24 ent24 :=
  ZC (n := n + 0) (ck24 n) (OK := Zg os24) (body := kc24) (show Zy (Zg os24) (evF tab (n + 0)) kc24 from ⟨trivial, ⟨⟨trivial, ⟨trivial, (Z2 (os := os24) (i := 0) (o := orc24_0) rfl (snd24_0 n))⟩⟩, ⟨trivial, ⟨trivial, trivial⟩⟩⟩⟩) t24 (by kernel_rfl)
    (Zs (Q := fun i sh => ∀ ls, Zah sh ls (fun args h => fnK (Zz es24) (Zg os24) sf24 kc24 args h (ZE aout24 0) none) none = g24 (i, ls)) (l := ain24) ⟨fun ls => by kernel_rfl, trivial⟩)
def es22 : List (FuncId × Ent × List (List Bool)) := [(24, ent24, [[true]])]
theorem ck22 (n : Nat) : Zx (Zz es22) (evF tab (n + 1)) :=
  Zf (ok24 (n + 0)) (Zu)
def kc22 : KC := (.seq (.reg r22_0) (.seq (.seq (.reg r22_1) (.cond (.t 6) (.seq (.reg r22_2) (.seq (.kill [0, 1, 6]) .ret)) .skip)) (.seq (.reg r22_3) (.seq (.kill [0, 1, 6]) .ret))))
def ain22 : List APat := [⟨[(.intsE .i64 5)], []⟩]
def aout22 : List RPat := [⟨(.tup [(.ptr 0 (.c 0)), pI]), [(true, (.intsE .i64 9))], []⟩, ⟨(.tup [.nilp, pI]), [], []⟩]
def g22_0 (a b c d e : Int) : Option (Nat × List Leaf) :=
  altK (g24 (0, I4 a b c d [.i e])) [fun r => asB r (fun f r => asE r (cond (!f) (some (1, [.i ((1 : Int))])) (some (0, I8 (0) a b c d e (0) (0) [.i (0), .i (0)]))) none) none] none
def g22 (s : Nat × List Leaf) : Option (Nat × List Leaf) := match s.1 with
  | 0 => let r := s.2; asI4 r (fun a b c d r => asI r (fun e r => asE r (g22_0 a b c d e) none) none) none
  | _ => none
def ent22 : Ent := ⟨ain22, aout22, g22⟩
def os22 : List (Orc × List (List Bool)) := []
theorem ok22 (n : Nat) : Zq (evF tab (n + 2)) 22 ent22 :=
  ZC (n := n + 1) (ck22 n) (OK := Zg os22) (body := kc22) (show Zy (Zg os22) (evF tab (n + 1)) kc22 from ⟨trivial, ⟨⟨trivial, ⟨⟨trivial, ⟨trivial, trivial⟩⟩, trivial⟩⟩, ⟨trivial, ⟨trivial, trivial⟩⟩⟩⟩) t22 (by kernel_rfl)
    (Zs (Q := fun i sh => ∀ ls, Zah sh ls (fun args h => fnK (Zz es22) (Zg os22) sf22 kc22 args h (ZE aout22 0) none) none = g22 (i, ls)) (l := ain22) ⟨fun ls => by kernel_rfl, trivial⟩)
def es33 : List (FuncId × Ent × List (List Bool)) := [(40, ent40, [[true]]), (41, ent41, [[true]]), (31, ent31, [[true]])]
theorem ck33 (n : Nat) : Zx (Zz es33) (evF tab (n + 2)) :=
  Zf (ok40 (n + 1)) (Zf (ok41 (n + 1)) (Zf (ok31 (n + 0)) (Zu)))
def kc33 : KC := (.seq (.reg r33_0) (.seq (.seq (.reg r33_1) (.cond (.t 10) (.seq (.reg r33_2) (.seq (.kill [0, 1, 5, 6, 7, 8, 10]) .ret)) .skip)) (.seq (.reg r33_3) (.seq (.reg r33_4) (.seq (.reg r33_5) (.seq (.reg r33_6) (.seq (.reg r33_7) (.seq (.reg r33_8) (.seq (.reg r33_9) (.seq (.kill [0, 1, 5, 6, 7, 8, 10]) .ret))))))))))
def ain33 : List APat := [⟨[(.ptr 0 (.c 0)), pI], [(true, (.intsE .i64 9))]⟩]
def aout33 : List RPat := [⟨pI, [(true, (.intsE .i64 9))], []⟩]
def g33_0 (j a b c d e f k g l : Int) : Option (Nat × List Leaf) :=
  altK (g40 (0, [.i j, .i ((-32768 : Int)), .i ((32767 : Int))])) [fun r => asI r (fun h r => asE r (altK (g41 (0, [.i (IntKind.wrap IntKind.i64 (IntKind.wrap IntKind.i64 (IntKind.wrap IntKind.i64 (IntKind.wrap IntKind.i64 (IntKind.wrap IntKind.i64 (a * h) + IntKind.wrap IntKind.i64 (b * f)) + IntKind.wrap IntKind.i64 (c * k)) + IntKind.wrap IntKind.i64 (d * g)) + IntKind.wrap IntKind.i64 (e * l))), .i ((14 : Int))])) [fun r => asI r (fun m r => asE r (altK (g31 (0, [.i m])) [fun r => asI r (fun i r => asE r (some (0, I8 i a b c d e h f [.i i, .i g])) none) none] none) none) none] none) none) none] none
def g33 (s : Nat × List Leaf) : Option (Nat × List Leaf) := match s.1 with
  | 0 => let r := s.2; asI8 r (fun a b c d e f g h r => asI r (fun i r => asI r (fun j r => asE r (g33_0 a b c d e f g h i j) none) none) none) none
  | _ => none
def ent33 : Ent := ⟨ain33, aout33, g33⟩
def os33 : List (Orc × List (List Bool)) := []
theorem ok33 (n : Nat) : Zq (evF tab (n + 3)) 33 ent33 :=
  ZC (n := n + 2) (ck33 n) (OK := Zg os33) (body := kc33) (show Zy (Zg os33) (evF tab (n + 2)) kc33 from ⟨trivial, ⟨⟨trivial, ⟨⟨trivial, ⟨trivial, trivial⟩⟩, trivial⟩⟩, ⟨trivial, ⟨trivial, ⟨trivial, ⟨trivial, ⟨trivial, ⟨trivial, ⟨trivial, ⟨trivial, trivial⟩⟩⟩⟩⟩⟩⟩⟩⟩⟩) t33 (by kernel_rfl)
    (Zs (Q := fun i sh => ∀ ls, Zah sh ls (fun args h => fnK (Zz es33) (Zg os33) sf33 kc33 args h (ZE aout33 0) none) none = g33 (i, ls)) (l := ain33) ⟨fun ls => by kernel_rfl, trivial⟩)
def es25 : List (FuncId × Ent × List (List Bool)) := []
theorem ck25 (n : Nat) : Zx (Zz es25) (evF tab (n + 0)) :=
  Zu
def kc25 : KC := (.seq (.reg r25_0) (.seq (.reg r25_1) (.seq (.kill [0, 1]) .ret)))
def ain25 : List APat := [⟨[(.intsE .i64 3)], []⟩]
def aout25 : List RPat := [⟨.bool, [], []⟩]
def g25_0 (a b c : Int) : Option (Nat × List Leaf) :=
  cond (decide ((1 : Int) ≤ a)) (cond (decide (a ≤ (4096 : Int))) (cond (decide (0 ≤ b)) (cond (decide (b < (256 : Int))) (cond (decide (0 ≤ c)) (some (0, [.b (decide (c ≤ (256 : Int)))])) (some (0, [.b (Bool.false)]))) (some (0, [.b (Bool.false)]))) (some (0, [.b (Bool.false)]))) (some (0, [.b (Bool.false)]))) (some (0, [.b (Bool.false)]))
def g25 (s : Nat × List Leaf) : Option (Nat × List Leaf) := match s.1 with
  | 0 => let r := s.2; asI r (fun a r => asI r (fun b r => asI r (fun c r => asE r (g25_0 a b c) none) none) none) none
  | _ => none
def ent25 : Ent := ⟨ain25, aout25, g25⟩
def os25 : List (Orc × List (List Bool)) := []
theorem ok25 (n : Nat) : Zq (evF tab (n + 1)) 25 ent25 :=
  ZC (n := n + 0) (ck25 n) (OK := Zg os25) (body := kc25) (show Zy (Zg os25) (evF tab (n + 0)) kc25 from ⟨trivial, ⟨trivial, ⟨trivial, trivial⟩⟩⟩) t25 (by kernel_rfl)
    (Zs (Q := fun i sh => ∀ ls, Zah sh ls (fun args h => fnK (Zz es25) (Zg os25) sf25 kc25 args h (ZE aout25 0) none) none = g25 (i, ls)) (l := ain25) ⟨fun ls => by kernel_rfl, trivial⟩)
def es23 : List (FuncId × Ent × List (List Bool)) := [(25, ent25, [[true]])]
theorem ck23 (n : Nat) : Zx (Zz es23) (evF tab (n + 1)) :=
  Zf (ok25 (n + 0)) (Zu)
def kc23 : KC := (.seq (.reg r23_0) (.seq (.seq (.reg r23_1) (.cond (.t 6) (.seq (.reg r23_2) (.seq (.kill [0, 1, 6]) .ret)) .skip)) (.seq (.reg r23_3) (.seq (.kill [0, 1, 6]) .ret))))
def ain23 : List APat := [⟨[(.intsE .i64 3)], []⟩]
def aout23 : List RPat := [⟨(.tup [(.ptr 0 (.c 0)), pI]), [(true, (.agg [pI, pI, pI, (.slice 1 (.c 0) .h 1), pI])), (true, (.ints .i64))], []⟩, ⟨(.tup [.nilp, pI]), [], []⟩]
def g23_0 (a b c : Int) : Option (Nat × List Leaf) :=
  altK (g25 (0, [.i a, .i b, .i c])) [fun r => asB r (fun d r => asE r (cond (!d) (some (1, [.i ((1 : Int))])) (if a = a then if 0 ≤ a then if (8 : Int) * a ≤ (140737488355328 : Int) then if a ≤ (9223372036854775807 : Int) then some (0, I4 (0) a b c [.n (Int.toNat a), .i (0), .l (List.replicate (Int.toNat a) 0)]) else none else none else none else none)) none) none] none
def g23 (s : Nat × List Leaf) : Option (Nat × List Leaf) := match s.1 with
  | 0 => let r := s.2; asI r (fun a r => asI r (fun b r => asI r (fun c r => asE r (g23_0 a b c) none) none) none) none
  | _ => none
def ent23 : Ent := ⟨ain23, aout23, g23⟩
def os23 : List (Orc × List (List Bool)) := []
theorem ok23 (n : Nat) : Zq (evF tab (n + 2)) 23 ent23 :=
  ZC (n := n + 1) (ck23 n) (OK := Zg os23) (body := kc23) (show Zy (Zg os23) (evF tab (n + 1)) kc23 from ⟨trivial, ⟨⟨trivial, ⟨⟨trivial, ⟨trivial, trivial⟩⟩, trivial⟩⟩, ⟨trivial, ⟨trivial, trivial⟩⟩⟩⟩) t23 (by kernel_rfl)
    (Zs (Q := fun i sh => ∀ ls, Zah sh ls (fun args h => fnK (Zz es23) (Zg os23) sf23 kc23 args h (ZE aout23 0) none) none = g23 (i, ls)) (l := ain23) ⟨fun ls => by kernel_rfl, trivial⟩)
def es34 : List (FuncId × Ent × List (List Bool)) := [(41, ent41, [[true]]), (32, ent32, [[true]]), (31, ent31, [[true]])]
theorem ck34 (n : Nat) : Zx (Zz es34) (evF tab (n + 2)) :=
  Zf (ok41 (n + 1)) (Zf (ok32 (n + 1)) (Zf (ok31 (n + 0)) (Zu)))
def kc34 : KC := (.seq (.reg r34_0) (.seq (.seq (.reg r34_1) (.cond (.t 15) (.seq (.reg r34_2) (.seq (.kill [0, 1, 5, 15]) .ret)) .skip)) (.seq (.reg r34_3) (.seq (.reg r34_4) (.seq (.reg r34_5) (.seq (.reg r34_6) (.seq (.kill [0, 1, 5, 15]) .ret)))))))
def ain34 : List APat := [⟨[(.ptr 0 (.c 0)), pI], [(true, (.agg [pI, pI, pI, (.slice 1 (.c 0) .h 1), pI])), (true, (.ints .i64))]⟩]
def aout34 : List RPat := [⟨pI, [(true, (.agg [pI, pI, pI, (.slice 1 (.c 0) .h 1), pI])), (true, (.ints .i64))], []⟩]
def g34_0 (d g e f : Int) (b : Nat) (a : Int) (c : List Int) : Option (Nat × List Leaf) :=
  cond (decide ((↑b : Int) = 0)) (some (0, I4 d g e f [.n b, .i a, .l c])) (if 0 ≤ a ∧ a < (↑b : Int) then optK (c[Int.toNat a]?) (fun h => altK (g41 (0, [.i (IntKind.wrap IntKind.i64 (h * e)), .i ((8 : Int))])) [fun r => asI r (fun i r => asE r (altK (g32 (0, [.n ((2 : Nat)), .l ([d, i])])) [fun r => asI r (fun j r => asL r (fun o r => asE r (altK (g31 (0, [.i j])) [fun r => asI r (fun k r => asE r (if 0 ≤ a ∧ a < (↑b : Int) then if Int.toNat a < List.length c then if (↑b : Int) = 0 then none else altK (g41 (0, [.i (IntKind.wrap IntKind.i64 (h * f)), .i ((8 : Int))])) [fun r => asI r (fun l r => asE r (altK (g32 (0, [.n ((2 : Nat)), .l ([d, l])])) [fun r => asI r (fun m r => asL r (fun p r => asE r (altK (g31 (0, [.i m])) [fun r => asI r (fun n r => asE r (some (0, I4 n g e f [.n b, .i (Int.tmod (IntKind.wrap IntKind.i64 (a + (1 : Int))) (↑b : Int)), .l (List.set c (Int.toNat a) k)])) none) none] none) none) none) none] none) none) none] none else none else none) none) none] none) none) none) none] none) none) none] none) (none) else none)
def g34 (s : Nat × List Leaf) : Option (Nat × List Leaf) := match s.1 with
  | 0 => let r := s.2; asI4 r (fun a b c d r => asN r (fun e r => asI r (fun f r => asL r (fun g r => asE r (g34_0 a b c d e f g) none) none) none) none) none
  | _ => none
def ent34 : Ent := ⟨ain34, aout34, g34⟩
def os34 : List (Orc × List (List Bool)) := []
theorem ok34 (n : Nat) : Zq (evF tab (n + 3)) 34 ent34 :=
  ZC (n := n + 2) (ck34 n) (OK := Zg os34) (body := kc34) (show Zy (Zg os34) (evF tab (n + 2)) kc34 from ⟨trivial, ⟨⟨trivial, ⟨⟨trivial, ⟨trivial, trivial⟩⟩, trivial⟩⟩, ⟨trivial, ⟨trivial, ⟨trivial, ⟨trivial, ⟨trivial, trivial⟩⟩⟩⟩⟩⟩⟩) t34 (by kernel_rfl)
    (Zs (Q := fun i sh => ∀ ls, Zah sh ls (fun args h => fnK (Zz es34) (Zg os34) sf34 kc34 args h (ZE aout34 0) none) none = g34 (i, ls)) (l := ain34) ⟨fun ls => by kernel_rfl, trivial⟩)
def es42 : List (FuncId × Ent × List (List Bool)) := []
theorem ck42 (n : Nat) : Zx (Zz es42) (evF tab (n + 0)) :=
  Zu
def kc42 : KC := (.seq (.reg r42_0) (.seq (.seq (.reg r42_1) (.cond (.t 4) (.seq (.reg r42_2) (.seq (.kill [0, 4, 6]) .ret)) .skip)) (.seq (.seq (.reg r42_3) (.cond (.t 6) (.seq (.reg r42_4) (.seq (.kill [0, 4, 6]) .ret)) .skip)) (.seq (.reg r42_5) (.seq (.kill [0, 4, 6]) .ret)))))
def ain42 : List APat := [⟨[pI], []⟩]
def aout42 : List RPat := [⟨pI, [], []⟩]
def g42_0 (a : Int) : Option (Nat × List Leaf) :=
  cond (decide ((32767 : Int) < a)) (some (0, [.i ((32767 : Int))])) (cond (decide (a < (-32768 : Int))) (some (0, [.i ((-32768 : Int))])) (some (0, [.i a])))
def g42 (s : Nat × List Leaf) : Option (Nat × List Leaf) := match s.1 with
  | 0 => let r := s.2; asI r (fun a r => asE r (g42_0 a) none) none
  | _ => none
def ent42 : Ent := ⟨ain42, aout42, g42⟩
def os42 : List (Orc × List (List Bool)) := []
theorem ok42 (n : Nat) : Zq (evF tab (n + 1)) 42 ent42 :=
  ZC (n := n + 0) (ck42 n) (OK := Zg os42) (body := kc42) (show Zy (Zg os42) (evF tab (n + 0)) kc42 from ⟨trivial, ⟨⟨trivial, ⟨⟨trivial, ⟨trivial, trivial⟩⟩, trivial⟩⟩, ⟨⟨trivial, ⟨⟨trivial, ⟨trivial, trivial⟩⟩, trivial⟩⟩, ⟨trivial, ⟨trivial, trivial⟩⟩⟩⟩⟩) t42 (by kernel_rfl)
    (Zs (Q := fun i sh => ∀ ls, Zah sh ls (fun args h => fnK (Zz es42) (Zg os42) sf42 kc42 args h (ZE aout42 0) none) none = g42 (i, ls)) (l := ain42) ⟨fun ls => by kernel_rfl, trivial⟩)
def es37 : List (FuncId × Ent × List (List Bool)) := [(42, ent42, [[true]])]
theorem ck37 (n : Nat) : Zx (Zz es37) (evF tab (n + 1)) :=
  Zf (ok42 (n + 0)) (Zu)
def kc37 : KC := (.seq (.reg r37_0) (.seq (.reg r37_1) (.seq (.reg r37_2) (.seq (.reg r37_3) (.seq (.seq (.reg r37_4) (.cond (.t 67) (.reg r37_5) .skip)) (.seq (.reg r37_6) (.seq (.reg r37_7) (.seq (.reg r37_8) (.seq (.reg r37_9) (.seq (.reg r37_10) (.seq (.reg r37_11) (.seq (.kill [0, 1, 5, 6, 7, 8, 67]) .ret))))))))))))
def ain37 : List APat := [⟨[(.ptr 0 (.c 0)), pI], [(true, (.intsE .i64 9))]⟩]
def aout37 : List RPat := [⟨pI, [(true, (.intsE .i64 9))], []⟩]
def g37_0 (m a b c d e f i g j : Int) : Option (Nat × List Leaf) :=
  altK (g42 (0, [.i m])) [fun r => asI r (fun h r => asE r (cond (decide (Int.tmod (IntKind.wrap IntKind.i64 (IntKind.wrap IntKind.i64 (IntKind.wrap IntKind.i64 (IntKind.wrap IntKind.i64 (IntKind.wrap IntKind.i64 (IntKind.wrap IntKind.i64 (a * h) + IntKind.wrap IntKind.i64 (b * f)) + IntKind.wrap IntKind.i64 (c * i)) + IntKind.wrap IntKind.i64 (d * g)) + IntKind.wrap IntKind.i64 (e * j)) + (8192 : Int))) (16384 : Int) < 0)) (altK (g42 (0, [.i (IntKind.wrap IntKind.i64 (IntKind.wrap IntKind.i64 (Int.tdiv (IntKind.wrap IntKind.i64 (IntKind.wrap IntKind.i64 (IntKind.wrap IntKind.i64 (IntKind.wrap IntKind.i64 (IntKind.wrap IntKind.i64 (IntKind.wrap IntKind.i64 (a * h) + IntKind.wrap IntKind.i64 (b * f)) + IntKind.wrap IntKind.i64 (c * i)) + IntKind.wrap IntKind.i64 (d * g)) + IntKind.wrap IntKind.i64 (e * j)) + (8192 : Int))) (16384 : Int)) - (1 : Int)))])) [fun r => asI r (fun k r => asE r (some (0, I8 k a b c d e h f [.i k, .i g])) none) none] none) (altK (g42 (0, [.i (IntKind.wrap IntKind.i64 (Int.tdiv (IntKind.wrap IntKind.i64 (IntKind.wrap IntKind.i64 (IntKind.wrap IntKind.i64 (IntKind.wrap IntKind.i64 (IntKind.wrap IntKind.i64 (IntKind.wrap IntKind.i64 (a * h) + IntKind.wrap IntKind.i64 (b * f)) + IntKind.wrap IntKind.i64 (c * i)) + IntKind.wrap IntKind.i64 (d * g)) + IntKind.wrap IntKind.i64 (e * j)) + (8192 : Int))) (16384 : Int)))])) [fun r => asI r (fun l r => asE r (some (0, I8 l a b c d e h f [.i l, .i g])) none) none] none)) none) none] none
def g37 (s : Nat × List Leaf) : Option (Nat × List Leaf) := match s.1 with
  | 0 => let r := s.2; asI8 r (fun a b c d e f g h r => asI r (fun i r => asI r (fun j r => asE r (g37_0 a b c d e f g h i j) none) none) none) none
  | _ => none
def ent37 : Ent := ⟨ain37, aout37, g37⟩
def os37 : List (Orc × List (List Bool)) := []
theorem ok37 (n : Nat) : Zq (evF tab (n + 2)) 37 ent37 :=
  ZC (n := n + 1) (ck37 n) (OK := Zg os37) (body := kc37) (show Zy (Zg os37) (evF tab (n + 1)) kc37 from ⟨trivial, ⟨trivial, ⟨trivial, ⟨trivial, ⟨⟨trivial, ⟨trivial, trivial⟩⟩, ⟨trivial, ⟨trivial, ⟨trivial, ⟨trivial, ⟨trivial, ⟨trivial, ⟨trivial, trivial⟩⟩⟩⟩⟩⟩⟩⟩⟩⟩⟩⟩) t37 (by kernel_rfl)
    (Zs (Q := fun i sh => ∀ ls, Zah sh ls (fun args h => fnK (Zz es37) (Zg os37) sf37 kc37 args h (ZE aout37 0) none) none = g37 (i, ls)) (l := ain37) ⟨fun ls => by kernel_rfl, trivial⟩)
def es43 : List (FuncId × Ent × List (List Bool)) := []
theorem ck43 (n : Nat) : Zx (Zz es43) (evF tab (n + 0)) :=
  Zu
def kc43 : KC := (.seq (.reg r43_0) (.seq (.seq (.reg r43_1) (.cond (.t 4) (.seq (.reg r43_2) (.seq (.kill [0, 4, 6]) .ret)) .skip)) (.seq (.seq (.reg r43_3) (.cond (.t 6) (.seq (.reg r43_4) (.seq (.kill [0, 4, 6]) .ret)) .skip)) (.seq (.reg r43_5) (.seq (.kill [0, 4, 6]) .ret)))))
def ain43 : List APat := [⟨[pI], []⟩]
def aout43 : List RPat := [⟨pI, [], []⟩]
def g43_0 (a : Int) : Option (Nat × List Leaf) :=
  cond (decide ((32767 : Int) < a)) (some (0, [.i ((32767 : Int))])) (cond (decide (a < (-32768 : Int))) (some (0, [.i ((-32768 : Int))])) (some (0, [.i a])))
def g43 (s : Nat × List Leaf) : Option (Nat × List Leaf) := match s.1 with
  | 0 => let r := s.2; asI r (fun a r => asE r (g43_0 a) none) none
  | _ => none
def ent43 : Ent := ⟨ain43, aout43, g43⟩
def os43 : List (Orc × List (List Bool)) := []
theorem ok43 (n : Nat) : Zq (evF tab (n + 1)) 43 ent43 :=
  ZC (n := n + 0) (ck43 n) (OK := Zg os43) (body := kc43) (show Zy (Zg os43) (evF tab (n + 0)) kc43 from ⟨trivial, ⟨⟨trivial, ⟨⟨trivial, ⟨trivial, trivial⟩⟩, trivial⟩⟩, ⟨⟨trivial, ⟨⟨trivial, ⟨trivial, trivial⟩⟩, trivial⟩⟩, ⟨trivial, ⟨trivial, trivial⟩⟩⟩⟩⟩) t43 (by kernel_rfl)
    (Zs (Q := fun i sh => ∀ ls, Zah sh ls (fun args h => fnK (Zz es43) (Zg os43) sf43 kc43 args h (ZE aout43 0) none) none = g43 (i, ls)) (l := ain43) ⟨fun ls => by kernel_rfl, trivial⟩)
def es44 : List (FuncId × Ent × List (List Bool)) := []
theorem ck44 (n : Nat) : Zx (Zz es44) (evF tab (n + 0)) :=
  Zu
def kc44 : KC := (.seq (.reg r44_0) (.seq (.reg r44_1) (.seq (.reg r44_2) (.seq (.seq (.reg r44_3) (.cond (.t 15) (.reg r44_4) .skip)) (.seq (.reg r44_5) (.seq (.kill [0, 1, 5, 6, 15]) .ret))))))
def ain44 : List APat := [⟨[pI, pI], []⟩]
def aout44 : List RPat := [⟨pI, [], []⟩]
def g44_0 (a b : Int) : Option (Nat × List Leaf) :=
  cond (decide (Int.tmod (IntKind.wrap IntKind.i64 (IntKind.wrap IntKind.i64 (a * b) + (128 : Int))) (256 : Int) < 0)) (some (0, [.i (IntKind.wrap IntKind.i64 (IntKind.wrap IntKind.i64 (Int.tdiv (IntKind.wrap IntKind.i64 (IntKind.wrap IntKind.i64 (a * b) + (128 : Int))) (256 : Int)) - (1 : Int)))])) (some (0, [.i (IntKind.wrap IntKind.i64 (Int.tdiv (IntKind.wrap IntKind.i64 (IntKind.wrap IntKind.i64 (a * b) + (128 : Int))) (256 : Int)))]))
def g44 (s : Nat × List Leaf) : Option (Nat × List Leaf) := match s.1 with
  | 0 => let r := s.2; asI r (fun a r => asI r (fun b r => asE r (g44_0 a b) none) none) none
  | _ => none
def ent44 : Ent := ⟨ain44, aout44, g44⟩
def os44 : List (Orc × List (List Bool)) := []
theorem ok44 (n : Nat) : Zq (evF tab (n + 1)) 44 ent44 :=
  ZC (n := n + 0) (ck44 n) (OK := Zg os44) (body := kc44) (show Zy (Zg os44) (evF tab (n + 0)) kc44 from ⟨trivial, ⟨trivial, ⟨trivial, ⟨⟨trivial, ⟨trivial, trivial⟩⟩, ⟨trivial, ⟨trivial, trivial⟩⟩⟩⟩⟩⟩) t44 (by kernel_rfl)
    (Zs (Q := fun i sh => ∀ ls, Zah sh ls (fun args h => fnK (Zz es44) (Zg os44) sf44 kc44 args h (ZE aout44 0) none) none = g44 (i, ls)) (l := ain44) ⟨fun ls => by kernel_rfl, trivial⟩)
def es38 : List (FuncId × Ent × List (List Bool)) := [(44, ent44, [[true]]), (43, ent43, [[true]])]
theorem ck38 (n : Nat) : Zx (Zz es38) (evF tab (n + 1)) :=
  Zf (ok44 (n + 0)) (Zf (ok43 (n + 0)) (Zu))
def kc38 : KC := (.seq (.reg r38_0) (.seq (.reg r38_1) (.seq (.seq (.reg r38_2) (.cond (.t 16) (.reg r38_3) .skip)) (.seq (.reg r38_4) (.seq (.reg r38_5) (.seq (.kill [0, 1, 5, 16]) .ret))))))
def ain38 : List APat := [⟨[(.ptr 0 (.c 0)), pI], [(true, (.agg [pI, pI, pI, (.slice 1 (.c 0) .h 1)])), (true, (.ints .i64))]⟩, ⟨[(.ptr 0 (.c 0)), pI], [(true, (.agg [pI, pI, pI, .nils]))]⟩]
def aout38 : List RPat := [⟨pI, [(true, (.agg [pI, pI, pI, (.slice 1 (.c 0) .h 1)])), (true, (.ints .i64))], [1]⟩, ⟨pI, [(true, (.agg [pI, pI, pI, (.slice 1 (.c 0) .h 1)])), (true, (.intsE .i64 1))], []⟩]
def g38_0 (d b e f : Int) (a : Nat) (c : List Int) : Option (Nat × List Leaf) :=
  cond (decide (b ≤ (↑a : Int))) (if 0 ≤ IntKind.wrap IntKind.i64 ((↑a : Int) - b) ∧ IntKind.wrap IntKind.i64 ((↑a : Int) - b) < (↑a : Int) then optK (c[Int.toNat (IntKind.wrap IntKind.i64 ((↑a : Int) - b))]?) (fun g => altK (g44 (0, [.i g, .i e])) [fun r => asI r (fun h r => asE r (altK (g43 (0, [.i (IntKind.wrap IntKind.i64 (d + h))])) [fun r => asI r (fun i r => asE r (if (a + (1 : Nat)) * (8 : Nat) ≤ (70368744177664 : Nat) then if List.length c = a * (1 : Nat) then altK (g44 (0, [.i g, .i f])) [fun r => asI r (fun j r => asE r (altK (g43 (0, [.i (IntKind.wrap IntKind.i64 (d + j))])) [fun r => asI r (fun k r => asE r (some (0, I4 k b e f [.n (a + (1 : Nat)), .l (c ++ [i])])) none) none] none) none) none] none else none else none) none) none] none) none) none] none) (none) else none) (altK (g44 (0, [.i (0), .i e])) [fun r => asI r (fun l r => asE r (altK (g43 (0, [.i (IntKind.wrap IntKind.i64 (d + l))])) [fun r => asI r (fun m r => asE r (if (a + (1 : Nat)) * (8 : Nat) ≤ (70368744177664 : Nat) then if List.length c = a * (1 : Nat) then altK (g44 (0, [.i (0), .i f])) [fun r => asI r (fun n r => asE r (altK (g43 (0, [.i (IntKind.wrap IntKind.i64 (d + n))])) [fun r => asI r (fun o r => asE r (some (0, I4 o b e f [.n (a + (1 : Nat)), .l (c ++ [m])])) none) none] none) none) none] none else none else none) none) none] none) none) none] none)
def g38_1 (a b c d : Int) : Option (Nat × List Leaf) :=
  cond (decide (b ≤ 0)) (none) (altK (g44 (0, [.i (0), .i c])) [fun r => asI r (fun e r => asE r (altK (g43 (0, [.i (IntKind.wrap IntKind.i64 (a + e))])) [fun r => asI r (fun f r => asE r (altK (g44 (0, [.i (0), .i d])) [fun r => asI r (fun g r => asE r (altK (g43 (0, [.i (IntKind.wrap IntKind.i64 (a + g))])) [fun r => asI r (fun h r => asE r (some (1, I4 h b c d [.n ((1 : Nat)), .i f])) none) none] none) none) none] none) none) none] none) none) none] none)
def g38 (s : Nat × List Leaf) : Option (Nat × List Leaf) := match s.1 with
  | 0 => let r := s.2; asI4 r (fun a b c d r => asN r (fun e r => asL r (fun f r => asE r (g38_0 a b c d e f) none) none) none) none
  | 1 => let r := s.2; asI4 r (fun a b c d r => asE r (g38_1 a b c d) none) none
  | _ => none
def ent38 : Ent := ⟨ain38, aout38, g38⟩
def os38 : List (Orc × List (List Bool)) := []
theorem ok38 (n : Nat) : Zq (evF tab (n + 2)) 38 ent38 :=
  ZC (n := n + 1) (ck38 n) (OK := Zg os38) (body := kc38) (show Zy (Zg os38) (evF tab (n + 1)) kc38 from ⟨trivial, ⟨trivial, ⟨⟨trivial, ⟨trivial, trivial⟩⟩, ⟨trivial, ⟨trivial, ⟨trivial, trivial⟩⟩⟩⟩⟩⟩) t38 (by kernel_rfl)
    (Zs (Q := fun i sh => ∀ ls, Zah sh ls (fun args h => fnK (Zz es38) (Zg os38) sf38 kc38 args h (ZE aout38 0) none) none = g38 (i, ls)) (l := ain38) ⟨fun ls => by kernel_rfl, ⟨fun ls => by kernel_rfl, trivial⟩⟩)
def es10 : List (FuncId × Ent × List (List Bool)) := [(25, ent25, [[true]]), (24, ent24, [[true]])]
theorem ck10 (n : Nat) : Zx (Zz es10) (evF tab (n + 1)) :=
  Zf (ok25 (n + 0)) (Zf (ok24 (n + 0)) (Zu))
def kc10 : KC := (.seq (.reg r10_0) (.seq (.seq (.reg r10_1) (.block 0 (.seq (.reg r10_2) (.cond (.t 5) (.seq (.reg r10_3) (.seq (.kill [0, 1, 4, 5, 10, 15]) .ret)) (.seq (.reg r10_4) (.cond (.t 10) (.seq (.reg r10_5) (.seq (.kill [0, 1, 4, 5, 10, 15]) .ret)) (.seq (.reg r10_6) (.cond (.t 15) (.seq (.reg r10_7) (.seq (.kill [0, 1, 4, 5, 10, 15]) .ret)) .skip)))))))) (.seq (.reg r10_8) (.seq (.kill [0, 1, 4, 5, 10, 15]) .ret))))
def ain10 : List APat := [⟨[(.intsE .i64 10)], []⟩]
def aout10 : List RPat := [⟨.bool, [], []⟩]
def g10_0 (a c d e f g h i j b : Int) : Option (Nat × List Leaf) :=
  cond (decide (a = 0)) (altK (g24 (0, I4 c d e f [.i g])) [fun r => asB r (fun k r => asE r (some (0, [.b k])) none) none] none) (cond (decide (a = (1 : Int))) (altK (g25 (0, [.i h, .i i, .i j])) [fun r => asB r (fun l r => asE r (some (0, [.b l])) none) none] none) (cond (decide (a = (2 : Int))) (cond (decide (0 ≤ b)) (some (0, [.b (decide (b ≤ (1024 : Int)))])) (some (0, [.b (Bool.false)]))) (cond (decide (a = (3 : Int))) (some (0, [.b (Bool.true)])) (some (0, [.b (decide (a = (4 : Int)))])))))
def g10 (s : Nat × List Leaf) : Option (Nat × List Leaf) := match s.1 with
  | 0 => let r := s.2; asI8 r (fun a b c d e f g h r => asI r (fun i r => asI r (fun j r => asE r (g10_0 a b c d e f g h i j) none) none) none) none
  | _ => none
def ent10 : Ent := ⟨ain10, aout10, g10⟩
def os10 : List (Orc × List (List Bool)) := []
theorem ok10 (n : Nat) : Zq (evF tab (n + 2)) 10 ent10 :=
  ZC (n := n + 1) (ck10 n) (OK := Zg os10) (body := kc10) (show Zy (Zg os10) (evF tab (n + 1)) kc10 from ⟨trivial, ⟨⟨trivial, ⟨trivial, ⟨⟨trivial, ⟨trivial, trivial⟩⟩, ⟨trivial, ⟨⟨trivial, ⟨trivial, trivial⟩⟩, ⟨trivial, ⟨⟨trivial, ⟨trivial, trivial⟩⟩, trivial⟩⟩⟩⟩⟩⟩⟩, ⟨trivial, ⟨trivial, trivial⟩⟩⟩⟩) t10 (by kernel_rfl)
    (Zs (Q := fun i sh => ∀ ls, Zah sh ls (fun args h => fnK (Zz es10) (Zg os10) sf10 kc10 args h (ZE aout10 0) none) none = g10 (i, ls)) (l := ain10) ⟨fun ls => by kernel_rfl, trivial⟩)
def es26 : List (FuncId × Ent × List (List Bool)) := [(31, ent31, [[true]])]
theorem ck26 (n : Nat) : Zx (Zz es26) (evF tab (n + 2)) :=
  Zf (ok31 (n + 0)) (Zu)
def kc26 : KC := (.seq (.reg r26_0) (.seq (.reg r26_1) (.seq (.kill [0, 1]) .ret)))
def ain26 : List APat := [⟨[(.intsE .i64 2)], []⟩]
def aout26 : List RPat := [⟨(.intsE .i64 2), [], []⟩]
def g26_0 (a b : Int) : Option (Nat × List Leaf) :=
  altK (g31 (0, [.i a])) [fun r => asI r (fun c r => asE r (altK (g31 (0, [.i b])) [fun r => asI r (fun d r => asE r (some (0, [.i c, .i d])) none) none] none) none) none] none
def g26 (s : Nat × List Leaf) : Option (Nat × List Leaf) := match s.1 with
  | 0 => let r := s.2; asI r (fun a r => asI r (fun b r => asE r (g26_0 a b) none) none) none
  | _ => none
def ent26 : Ent := ⟨ain26, aout26, g26⟩
def os26 : List (Orc × List (List Bool)) := []
theorem ok26 (n : Nat) : Zq (evF tab (n + 3)) 26 ent26 :=
  ZC (n := n + 2) (ck26 n) (OK := Zg os26) (body := kc26) (show Zy (Zg os26) (evF tab (n + 2)) kc26 from ⟨trivial, ⟨trivial, ⟨trivial, trivial⟩⟩⟩) t26 (by kernel_rfl)
    (Zs (Q := fun i sh => ∀ ls, Zah sh ls (fun args h => fnK (Zz es26) (Zg os26) sf26 kc26 args h (ZE aout26 0) none) none = g26 (i, ls)) (l := ain26) ⟨fun ls => by kernel_rfl, trivial⟩)
def es35 : List (FuncId × Ent × List (List Bool)) := [(41, ent41, [[true]]), (31, ent31, [[true]])]
theorem ck35 (n : Nat) : Zx (Zz es35) (evF tab (n + 2)) :=
  Zf (ok41 (n + 1)) (Zf (ok31 (n + 0)) (Zu))
def kc35 : KC := (.seq (.reg r35_0) (.seq (.reg r35_1) (.seq (.kill [0, 1]) .ret)))
def ain35 : List APat := [⟨[pI, pI], []⟩]
def aout35 : List RPat := [⟨pI, [], []⟩]
def g35_0 (a b : Int) : Option (Nat × List Leaf) :=
  altK (g41 (0, [.i (IntKind.wrap IntKind.i64 (a * b)), .i ((8 : Int))])) [fun r => asI r (fun c r => asE r (altK (g31 (0, [.i c])) [fun r => asI r (fun d r => asE r (some (0, [.i d])) none) none] none) none) none] none
def g35 (s : Nat × List Leaf) : Option (Nat × List Leaf) := match s.1 with
  | 0 => let r := s.2; asI r (fun a r => asI r (fun b r => asE r (g35_0 a b) none) none) none
  | _ => none
def ent35 : Ent := ⟨ain35, aout35, g35⟩
def os35 : List (Orc × List (List Bool)) := []
theorem ok35 (n : Nat) : Zq (evF tab (n + 3)) 35 ent35 :=
  ZC (n := n + 2) (ck35 n) (OK := Zg os35) (body := kc35) (show Zy (Zg os35) (evF tab (n + 2)) kc35 from ⟨trivial, ⟨trivial, ⟨trivial, trivial⟩⟩⟩) t35 (by kernel_rfl)
    (Zs (Q := fun i sh => ∀ ls, Zah sh ls (fun args h => fnK (Zz es35) (Zg os35) sf35 kc35 args h (ZE aout35 0) none) none = g35 (i, ls)) (l := ain35) ⟨fun ls => by kernel_rfl, trivial⟩)
def es27 : List (FuncId × Ent × List (List Bool)) := [(36, ent36, [[true]]), (35, ent35, [[true]]), (34, ent34, [[true]]), (33, ent33, [[true]])]
theorem ck27 (n : Nat) : Zx (Zz es27) (evF tab (n + 3)) :=
  Zf (ok36 (n + 2)) (Zf (ok35 (n + 0)) (Zf (ok34 (n + 0)) (Zf (ok33 (n + 0)) (Zu))))
def kc27 : KC := (.seq (.reg r27_0) (.seq (.seq (.reg r27_1) (.block 0 (.seq (.reg r27_2) (.cond (.t 11) (.seq (.reg r27_3) (.seq (.kill [0, 1, 3, 5, 10, 11, 30, 49, 68]) .ret)) (.seq (.reg r27_4) (.cond (.t 30) (.seq (.reg r27_5) (.seq (.kill [0, 1, 3, 5, 10, 11, 30, 49, 68]) .ret)) (.seq (.reg r27_6) (.cond (.t 49) (.seq (.reg r27_7) (.seq (.kill [0, 1, 3, 5, 10, 11, 30, 49, 68]) .ret)) (.seq (.reg r27_8) (.cond (.t 68) (.seq (.reg r27_9) (.seq (.kill [0, 1, 3, 5, 10, 11, 30, 49, 68]) .ret)) .skip)))))))))) (.seq (.reg r27_10) (.seq (.reg r27_11) (.seq (.kill [0, 1, 3, 5, 10, 11, 30, 49, 68]) .ret)))))
def ain27 : List APat := [⟨[(.ptr 0 (.c 0)), (.intsE .i64 2)], [(false, pF3), (true, (.intsE .i64 9)), (true, (.intsE .i64 9)), (true, (.agg [pI, pI, pI, (.slice 4 (.c 0) .h 1), pI])), (true, (.ints .i64)), (true, (.agg [pI, pI, pI, (.slice 6 (.c 0) .h 1), pI])), (true, (.ints .i64))]⟩, ⟨[(.ptr 0 (.c 0)), (.intsE .i64 2)], [(false, pF5), (true, (.intsE .i64 9)), (true, (.intsE .i64 9))]⟩, ⟨[(.ptr 0 (.c 0)), (.intsE .i64 2)], [(false, pF6), (true, (.agg [pI, pI, pI, (.slice 2 (.c 0) .h 1), pI])), (true, (.ints .i64)), (true, (.agg [pI, pI, pI, (.slice 4 (.c 0) .h 1), pI])), (true, (.ints .i64))]⟩, ⟨[(.ptr 0 (.c 0)), (.intsE .i64 2)], [(false, (.agg [pI, pI, pI, pI, pI, pI, pI, pI, pI, pI, .nilp, .nilp, .nilp, .nilp]))]⟩]
def aout27 : List RPat := [⟨(.intsE .i64 2), [(false, pF3), (true, (.intsE .i64 9)), (true, (.intsE .i64 9)), (true, (.agg [pI, pI, pI, (.slice 4 (.c 0) .h 1), pI])), (true, (.ints .i64)), (true, (.agg [pI, pI, pI, (.slice 6 (.c 0) .h 1), pI])), (true, (.ints .i64))], []⟩, ⟨(.intsE .i64 2), [(false, pF5), (true, (.intsE .i64 9)), (true, (.intsE .i64 9))], []⟩, ⟨(.intsE .i64 2), [(false, pF6), (true, (.agg [pI, pI, pI, (.slice 2 (.c 0) .h 1), pI])), (true, (.ints .i64)), (true, (.agg [pI, pI, pI, (.slice 4 (.c 0) .h 1), pI])), (true, (.ints .i64))], []⟩, ⟨(.intsE .i64 2), [(false, (.agg [pI, pI, pI, pI, pI, pI, pI, pI, pI, pI, .nilp, .nilp, .nilp, .nilp]))], []⟩]
def g27_0 (c d a e f g h i j k l b m n o p q t u v w x y z a0 a1 a2 a3 a4 a5 a6 a7 a8 : Int) (a9 : Nat) (b0 : Int) (b1 : List Int) (b2 b3 b4 : Int) (b5 : Nat) (b6 : Int) (b7 : List Int) : Option (Nat × List Leaf) :=
  cond (decide (a = 0)) (altK (g33 (0, I8 c m n o p q t u [.i v, .i w])) [fun r => asI8 r (fun b9 c0 c1 c2 c3 c4 c5 c6 r => asI r (fun c7 r => asI r (fun c8 r => asE r (altK (g33 (0, I8 d x y z a0 a1 a2 a3 [.i a4, .i a5])) [fun r => asI8 r (fun c9 d0 d1 d2 d3 d4 d5 d6 r => asI r (fun d7 r => asI r (fun d8 r => asE r (some (0, I16 b9 c9 a e f g h i j k l b c0 c1 c2 c3 (I16 c4 c5 c6 c7 c8 d0 d1 d2 d3 d4 d5 d6 d7 d8 a6 a7 [.i a8, .n a9, .i b0, .l b1, .i b2, .i b3, .i b4, .n b5, .i b6, .l b7]))) none) none) none) none] none) none) none) none) none] none) (cond (decide (a = (1 : Int))) (altK (g34 (0, I4 c a6 a7 a8 [.n a9, .i b0, .l b1])) [fun r => asI4 r (fun d9 e0 e1 e2 r => asN r (fun e3 r => asI r (fun e4 r => asL r (fun e5 r => asE r (altK (g34 (0, I4 d b2 b3 b4 [.n b5, .i b6, .l b7])) [fun r => asI4 r (fun e6 e7 e8 e9 r => asN r (fun f0 r => asI r (fun f1 r => asL r (fun f2 r => asE r (some (0, I16 d9 e6 a e f g h i j k l b m n o p (I16 q t u v w x y z a0 a1 a2 a3 a4 a5 e0 e1 [.i e2, .n e3, .i e4, .l e5, .i e7, .i e8, .i e9, .n f0, .i f1, .l f2]))) none) none) none) none) none] none) none) none) none) none) none] none) (cond (decide (a = (2 : Int))) (altK (g35 (0, [.i c, .i b])) [fun r => asI r (fun f3 r => asE r (altK (g35 (0, [.i d, .i b])) [fun r => asI r (fun f4 r => asE r (some (0, I16 f3 f4 a e f g h i j k l b m n o p (I16 q t u v w x y z a0 a1 a2 a3 a4 a5 a6 a7 [.i a8, .n a9, .i b0, .l b1, .i b2, .i b3, .i b4, .n b5, .i b6, .l b7]))) none) none] none) none) none] none) (cond (decide (a = (3 : Int))) (some (0, I16 d c a e f g h i j k l b m n o p (I16 q t u v w x y z a0 a1 a2 a3 a4 a5 a6 a7 [.i a8, .n a9, .i b0, .l b1, .i b2, .i b3, .i b4, .n b5, .i b6, .l b7]))) (altK (g36 (0, [.i (IntKind.wrap IntKind.i64 (c + d)), .i ((2 : Int))])) [fun r => asI r (fun b8 r => asE r (some (0, I16 b8 b8 a e f g h i j k l b m n o p (I16 q t u v w x y z a0 a1 a2 a3 a4 a5 a6 a7 [.i a8, .n a9, .i b0, .l b1, .i b2, .i b3, .i b4, .n b5, .i b6, .l b7]))) none) none] none))))
def g27_1 (c d a e f g h i j k l b m n o p q t u v w x y z a0 a1 a2 a3 a4 a5 : Int) : Option (Nat × List Leaf) :=
  cond (decide (a = 0)) (altK (g33 (0, I8 c m n o p q t u [.i v, .i w])) [fun r => asI8 r (fun a7 a8 a9 b0 b1 b2 b3 b4 r => asI r (fun b5 r => asI r (fun b6 r => asE r (altK (g33 (0, I8 d x y z a0 a1 a2 a3 [.i a4, .i a5])) [fun r => asI8 r (fun b7 b8 b9 c0 c1 c2 c3 c4 r => asI r (fun c5 r => asI r (fun c6 r => asE r (some (1, I16 a7 b7 a e f g h i j k l b a8 a9 b0 b1 (I8 b2 b3 b4 b5 b6 b8 b9 c0 (I4 c1 c2 c3 c4 [.i c5, .i c6])))) none) none) none) none] none) none) none) none) none] none) (cond (decide (a = (1 : Int))) (none) (cond (decide (a = (2 : Int))) (altK (g35 (0, [.i c, .i b])) [fun r => asI r (fun c7 r => asE r (altK (g35 (0, [.i d, .i b])) [fun r => asI r (fun c8 r => asE r (some (1, I16 c7 c8 a e f g h i j k l b m n o p (I8 q t u v w x y z (I4 a0 a1 a2 a3 [.i a4, .i a5])))) none) none] none) none) none] none) (cond (decide (a = (3 : Int))) (some (1, I16 d c a e f g h i j k l b m n o p (I8 q t u v w x y z (I4 a0 a1 a2 a3 [.i a4, .i a5])))) (altK (g36 (0, [.i (IntKind.wrap IntKind.i64 (c + d)), .i ((2 : Int))])) [fun r => asI r (fun a6 r => asE r (some (1, I16 a6 a6 a e f g h i j k l b m n o p (I8 q t u v w x y z (I4 a0 a1 a2 a3 [.i a4, .i a5])))) none) none] none))))
def g27_2 (c d a e f g h i j k l b m n o : Int) (p : Nat) (q : Int) (t : List Int) (u v w : Int) (x : Nat) (y : Int) (z : List Int) : Option (Nat × List Leaf) :=
  cond (decide (a = 0)) (none) (cond (decide (a = (1 : Int))) (altK (g34 (0, I4 c m n o [.n p, .i q, .l t])) [fun r => asI4 r (fun a1 a2 a3 a4 r => asN r (fun a5 r => asI r (fun a6 r => asL r (fun a7 r => asE r (altK (g34 (0, I4 d u v w [.n x, .i y, .l z])) [fun r => asI4 r (fun a8 a9 b0 b1 r => asN r (fun b2 r => asI r (fun b3 r => asL r (fun b4 r => asE r (some (2, I8 a1 a8 a e f g h i (I4 j k l b [.i a2, .i a3, .i a4, .n a5, .i a6, .l a7, .i a9, .i b0, .i b1, .n b2, .i b3, .l b4]))) none) none) none) none) none] none) none) none) none) none) none] none) (cond (decide (a = (2 : Int))) (altK (g35 (0, [.i c, .i b])) [fun r => asI r (fun b5 r => asE r (altK (g35 (0, [.i d, .i b])) [fun r => asI r (fun b6 r => asE r (some (2, I8 b5 b6 a e f g h i (I4 j k l b [.i m, .i n, .i o, .n p, .i q, .l t, .i u, .i v, .i w, .n x, .i y, .l z]))) none) none] none) none) none] none) (cond (decide (a = (3 : Int))) (some (2, I8 d c a e f g h i (I4 j k l b [.i m, .i n, .i o, .n p, .i q, .l t, .i u, .i v, .i w, .n x, .i y, .l z]))) (altK (g36 (0, [.i (IntKind.wrap IntKind.i64 (c + d)), .i ((2 : Int))])) [fun r => asI r (fun a0 r => asE r (some (2, I8 a0 a0 a e f g h i (I4 j k l b [.i m, .i n, .i o, .n p, .i q, .l t, .i u, .i v, .i w, .n x, .i y, .l z]))) none) none] none))))
def g27_3 (c d a e f g h i j k l b : Int) : Option (Nat × List Leaf) :=
  cond (decide (a = 0)) (none) (cond (decide (a = (1 : Int))) (none) (cond (decide (a = (2 : Int))) (altK (g35 (0, [.i c, .i b])) [fun r => asI r (fun n r => asE r (altK (g35 (0, [.i d, .i b])) [fun r => asI r (fun o r => asE r (some (3, I8 n o a e f g h i (I4 j k l b []))) none) none] none) none) none] none) (cond (decide (a = (3 : Int))) (some (3, I8 d c a e f g h i (I4 j k l b []))) (altK (g36 (0, [.i (IntKind.wrap IntKind.i64 (c + d)), .i ((2 : Int))])) [fun r => asI r (fun m r => asE r (some (3, I8 m m a e f g h i (I4 j k l b []))) none) none] none))))
def g27 (s : Nat × List Leaf) : Option (Nat × List Leaf) := match s.1 with
  | 0 => let r := s.2; Ze r (fun a b c d e f g h i j k l m n o p r => Ze r (fun q t u v w x y z a0 a1 a2 a3 a4 a5 a6 a7 r => asI r (fun a8 r => asN r (fun a9 r => asI r (fun b0 r => asL r (fun b1 r => asI r (fun b2 r => asI r (fun b3 r => asI r (fun b4 r => asN r (fun b5 r => asI r (fun b6 r => asL r (fun b7 r => asE r (g27_0 a b c d e f g h i j k l m n o p q t u v w x y z a0 a1 a2 a3 a4 a5 a6 a7 a8 a9 b0 b1 b2 b3 b4 b5 b6 b7) none) none) none) none) none) none) none) none) none) none) none) none) none
  | 1 => let r := s.2; Ze r (fun a b c d e f g h i j k l m n o p r => asI8 r (fun q t u v w x y z r => asI4 r (fun a0 a1 a2 a3 r => asI r (fun a4 r => asI r (fun a5 r => asE r (g27_1 a b c d e f g h i j k l m n o p q t u v w x y z a0 a1 a2 a3 a4 a5) none) none) none) none) none) none
  | 2 => let r := s.2; asI8 r (fun a b c d e f g h r => asI4 r (fun i j k l r => asI r (fun m r => asI r (fun n r => asI r (fun o r => asN r (fun p r => asI r (fun q r => asL r (fun t r => asI r (fun u r => asI r (fun v r => asI r (fun w r => asN r (fun x r => asI r (fun y r => asL r (fun z r => asE r (g27_2 a b c d e f g h i j k l m n o p q t u v w x y z) none) none) none) none) none) none) none) none) none) none) none) none) none) none) none
  | 3 => let r := s.2; asI8 r (fun a b c d e f g h r => asI4 r (fun i j k l r => asE r (g27_3 a b c d e f g h i j k l) none) none) none
  | _ => none
def ent27 : Ent := ⟨ain27, aout27, g27⟩
def os27 : List (Orc × List (List Bool)) := []
theorem ok27 (n : Nat) : Zq (evF tab (n + 4)) 27 ent27 :=
  ZC (n := n + 3) (ck27 n) (OK := Zg os27) (body := kc27) (show Zy (Zg os27) (evF tab (n + 3)) kc27 from ⟨trivial, ⟨⟨trivial, ⟨trivial, ⟨⟨trivial, ⟨trivial, trivial⟩⟩, ⟨trivial, ⟨⟨trivial, ⟨trivial, trivial⟩⟩, ⟨trivial, ⟨⟨trivial, ⟨trivial, trivial⟩⟩, ⟨trivial, ⟨⟨trivial, ⟨trivial, trivial⟩⟩, trivial⟩⟩⟩⟩⟩⟩⟩⟩⟩, ⟨trivial, ⟨trivial, ⟨trivial, trivial⟩⟩⟩⟩⟩) t27 (by kernel_rfl)
    (Zs (Q := fun i sh => ∀ ls, Zah sh ls (fun args h => fnK (Zz es27) (Zg os27) sf27 kc27 args h (ZE aout27 0) none) none = g27 (i, ls)) (l := ain27) ⟨fun ls => by kernel_rfl, ⟨fun ls => by kernel_rfl, ⟨fun ls => by kernel_rfl, ⟨fun ls => by kernel_rfl, trivial⟩⟩⟩⟩)
def es11 : List (FuncId × Ent × List (List Bool)) := [(25, ent25, [[true]]), (24, ent24, [[true]])]
theorem ck11 (n : Nat) : Zx (Zz es11) (evF tab (n + 1)) :=
  Zf (ok25 (n + 0)) (Zf (ok24 (n + 0)) (Zu))
def kc11 : KC := (.seq (.reg r11_0) (.seq (.reg r11_1) (.block 0 (.seq (.reg r11_2) (.cond (.t 13) (.seq (.reg r11_3) (.seq (.kill [0, 1, 4, 13, 18, 23]) .ret)) (.seq (.reg r11_4) (.cond (.t 18) (.seq (.reg r11_5) (.seq (.kill [0, 1, 4, 13, 18, 23]) .ret)) (.seq (.reg r11_6) (.cond (.t 23) (.seq (.reg r11_7) (.seq (.kill [0, 1, 4, 13, 18, 23]) .ret)) (.seq (.reg r11_8) (.seq (.kill [0, 1, 4, 13, 18, 23]) .ret)))))))))))
def ain11 : List APat := [⟨[(.intsE .i64 10)], []⟩]
def aout11 : List RPat := [⟨.bool, [], []⟩]
def g11_0 (a c d e f g h i j b : Int) : Option (Nat × List Leaf) :=
  cond (decide (a = 0)) (altK (g24 (0, I4 c d e f [.i g])) [fun r => asB r (fun k r => asE r (some (0, [.b k])) none) none] none) (cond (decide (a = (1 : Int))) (altK (g25 (0, [.i h, .i i, .i j])) [fun r => asB r (fun l r => asE r (some (0, [.b l])) none) none] none) (cond (decide (a = (2 : Int))) (cond (decide (0 ≤ b)) (some (0, [.b (decide (b ≤ (1024 : Int)))])) (some (0, [.b (Bool.false)]))) (cond (decide (a = (3 : Int))) (some (0, [.b (Bool.true)])) (some (0, [.b (decide (a = (4 : Int)))])))))
def g11 (s : Nat × List Leaf) : Option (Nat × List Leaf) := match s.1 with
  | 0 => let r := s.2; asI8 r (fun a b c d e f g h r => asI r (fun i r => asI r (fun j r => asE r (g11_0 a b c d e f g h i j) none) none) none) none
  | _ => none
def ent11 : Ent := ⟨ain11, aout11, g11⟩
def os11 : List (Orc × List (List Bool)) := []
theorem ok11 (n : Nat) : Zq (evF tab (n + 2)) 11 ent11 :=
  ZC (n := n + 1) (ck11 n) (OK := Zg os11) (body := kc11) (show Zy (Zg os11) (evF tab (n + 1)) kc11 from ⟨trivial, ⟨trivial, ⟨trivial, ⟨⟨trivial, ⟨trivial, trivial⟩⟩, ⟨trivial, ⟨⟨trivial, ⟨trivial, trivial⟩⟩, ⟨trivial, ⟨⟨trivial, ⟨trivial, trivial⟩⟩, ⟨trivial, ⟨trivial, trivial⟩⟩⟩⟩⟩⟩⟩⟩⟩⟩) t11 (by kernel_rfl)
    (Zs (Q := fun i sh => ∀ ls, Zah sh ls (fun args h => fnK (Zz es11) (Zg os11) sf11 kc11 args h (ZE aout11 0) none) none = g11 (i, ls)) (l := ain11) ⟨fun ls => by kernel_rfl, trivial⟩)
def es8 : List (FuncId × Ent × List (List Bool)) := []
theorem ck8 (n : Nat) : Zx (Zz es8) (evF tab (n + 0)) :=
  Zu
def kc8 : KC := (.seq (.reg r8_0) (.seq (.seq (.reg r8_1) (.cond (.t 4) (.seq (.reg r8_2) (.seq (.kill [0, 4, 6]) .ret)) .skip)) (.seq (.seq (.reg r8_3) (.cond (.t 6) (.seq (.reg r8_4) (.seq (.kill [0, 4, 6]) .ret)) .skip)) (.seq (.reg r8_5) (.seq (.kill [0, 4, 6]) .ret)))))
def ain8 : List APat := [⟨[pI], []⟩]
def aout8 : List RPat := [⟨pI, [], []⟩]
def g8_0 (a : Int) : Option (Nat × List Leaf) :=
  cond (decide ((32767 : Int) < a)) (some (0, [.i ((32767 : Int))])) (cond (decide (a < (-32768 : Int))) (some (0, [.i ((-32768 : Int))])) (some (0, [.i a])))
def g8 (s : Nat × List Leaf) : Option (Nat × List Leaf) := match s.1 with
  | 0 => let r := s.2; asI r (fun a r => asE r (g8_0 a) none) none
  | _ => none
def ent8 : Ent := ⟨ain8, aout8, g8⟩
def os8 : List (Orc × List (List Bool)) := []
theorem ok8 (n : Nat) : Zq (evF tab (n + 1)) 8 ent8 :=
  ZC (n := n + 0) (ck8 n) (OK := Zg os8) (body := kc8) (show Zy (Zg os8) (evF tab (n + 0)) kc8 from ⟨trivial, ⟨⟨trivial, ⟨⟨trivial, ⟨trivial, trivial⟩⟩, trivial⟩⟩, ⟨⟨trivial, ⟨⟨trivial, ⟨trivial, trivial⟩⟩, trivial⟩⟩, ⟨trivial, ⟨trivial, trivial⟩⟩⟩⟩⟩) t8 (by kernel_rfl)
    (Zs (Q := fun i sh => ∀ ls, Zah sh ls (fun args h => fnK (Zz es8) (Zg os8) sf8 kc8 args h (ZE aout8 0) none) none = g8 (i, ls)) (l := ain8) ⟨fun ls => by kernel_rfl, trivial⟩)
def es39 : List (FuncId × Ent × List (List Bool)) := []
theorem ck39 (n : Nat) : Zx (Zz es39) (evF tab (n + 0)) :=
  Zu
def kc39 : KC := (.seq (.reg r39_0) (.seq (.reg r39_1) (.seq (.seq (.reg r39_2) (.cond (.t 12) (.reg r39_3) .skip)) (.seq (.reg r39_4) (.seq (.kill [0, 1, 5, 12]) .ret)))))
def ain39 : List APat := [⟨[pI, pI], []⟩]
def aout39 : List RPat := [⟨pI, [], []⟩]
def g39_0 (b a : Int) : Option (Nat × List Leaf) :=
  if a = 0 then none else if a = 0 then none else cond (decide (Int.tmod b a < 0)) (some (0, [.i (IntKind.wrap IntKind.i64 (IntKind.wrap IntKind.i64 (Int.tdiv b a) - (1 : Int)))])) (some (0, [.i (IntKind.wrap IntKind.i64 (Int.tdiv b a))]))
def g39 (s : Nat × List Leaf) : Option (Nat × List Leaf) := match s.1 with
  | 0 => let r := s.2; asI r (fun a r => asI r (fun b r => asE r (g39_0 a b) none) none) none
  | _ => none
def ent39 : Ent := ⟨ain39, aout39, g39⟩
def os39 : List (Orc × List (List Bool)) := []
theorem ok39 (n : Nat) : Zq (evF tab (n + 1)) 39 ent39 :=
  ZC (n := n + 0) (ck39 n) (OK := Zg os39) (body := kc39) (show Zy (Zg os39) (evF tab (n + 0)) kc39 from ⟨trivial, ⟨trivial, ⟨⟨trivial, ⟨trivial, trivial⟩⟩, ⟨trivial, ⟨trivial, trivial⟩⟩⟩⟩⟩) t39 (by kernel_rfl)
    (Zs (Q := fun i sh => ∀ ls, Zah sh ls (fun args h => fnK (Zz es39) (Zg os39) sf39 kc39 args h (ZE aout39 0) none) none = g39 (i, ls)) (l := ain39) ⟨fun ls => by kernel_rfl, trivial⟩)
def es28 : List (FuncId × Ent × List (List Bool)) := [(39, ent39, [[true]]), (8, ent8, [[true]]), (38, ent38, [[true, false], [false, true]]), (37, ent37, [[true]])]
theorem ck28 (n : Nat) : Zx (Zz es28) (evF tab (n + 2)) :=
  Zf (ok39 (n + 1)) (Zf (ok8 (n + 1)) (Zf (ok38 (n + 0)) (Zf (ok37 (n + 0)) (Zu))))
def kc28 : KC := (.seq (.reg r28_0) (.seq (.reg r28_1) (.block 0 (.seq (.reg r28_2) (.cond (.t 20) (.seq (.reg r28_3) (.seq (.kill [0, 1, 3, 5, 10, 20, 41, 62, 87]) .ret)) (.seq (.reg r28_4) (.cond (.t 41) (.seq (.reg r28_5) (.seq (.kill [0, 1, 3, 5, 10, 20, 41, 62, 87]) .ret)) (.seq (.reg r28_6) (.cond (.t 62) (.seq (.reg r28_7) (.seq (.kill [0, 1, 3, 5, 10, 20, 41, 62, 87]) .ret)) (.seq (.reg r28_8) (.cond (.t 87) (.seq (.reg r28_9) (.seq (.kill [0, 1, 3, 5, 10, 20, 41, 62, 87]) .ret)) (.seq (.reg r28_10) (.seq (.reg r28_11) (.seq (.kill [0, 1, 3, 5, 10, 20, 41, 62, 87]) .ret))))))))))))))
def ain28 : List APat := [⟨[(.ptr 0 (.c 0)), (.intsE .i64 2)], [(true, pF4), (true, (.agg [(.ptr 2 (.c 0)), (.ptr 3 (.c 0))])), (true, (.intsE .i64 9)), (true, (.intsE .i64 9)), (true, (.agg [(.ptr 5 (.c 0)), (.ptr 6 (.c 0))])), (true, (.agg [pI, pI, pI, .nils])), (true, (.agg [pI, pI, pI, .nils]))]⟩, ⟨[(.ptr 0 (.c 0)), (.intsE .i64 2)], [(true, pF4), (true, (.agg [(.ptr 2 (.c 0)), (.ptr 3 (.c 0))])), (true, (.intsE .i64 9)), (true, (.intsE .i64 9)), (true, (.agg [(.ptr 5 (.c 0)), (.ptr 7 (.c 0))])), (true, (.agg [pI, pI, pI, (.slice 6 (.c 0) .h 1)])), (true, (.ints .i64)), (true, (.agg [pI, pI, pI, (.slice 8 (.c 0) .h 1)])), (true, (.ints .i64))]⟩]
def aout28 : List RPat := [⟨(.intsE .i64 2), [(true, pF2), (true, (.agg [(.ptr 2 (.c 0)), (.ptr 3 (.c 0))])), (true, (.intsE .i64 9)), (true, (.intsE .i64 9)), (true, (.agg [(.ptr 5 (.c 0)), (.ptr 6 (.c 0))])), (true, (.agg [pI, pI, pI, .nils])), (true, (.agg [pI, pI, pI, .nils]))], []⟩, ⟨(.intsE .i64 2), [(true, pF2), (true, (.agg [(.ptr 2 (.c 0)), (.ptr 3 (.c 0))])), (true, (.intsE .i64 9)), (true, (.intsE .i64 9)), (true, (.agg [(.ptr 5 (.c 0)), (.ptr 6 (.c 0))])), (true, (.agg [pI, pI, pI, (.slice 7 (.c 0) .h 1)])), (true, (.agg [pI, pI, pI, (.slice 8 (.c 0) .h 1)])), (true, (.intsE .i64 1)), (true, (.intsE .i64 1))], []⟩, ⟨(.intsE .i64 2), [(true, pF2), (true, (.agg [(.ptr 2 (.c 0)), (.ptr 3 (.c 0))])), (true, (.intsE .i64 9)), (true, (.intsE .i64 9)), (true, (.agg [(.ptr 5 (.c 0)), (.ptr 7 (.c 0))])), (true, (.agg [pI, pI, pI, (.slice 6 (.c 0) .h 1)])), (true, (.ints .i64)), (true, (.agg [pI, pI, pI, (.slice 8 (.c 0) .h 1)])), (true, (.ints .i64))], []⟩, ⟨(.intsE .i64 2), [(true, pF2), (true, (.agg [(.ptr 2 (.c 0)), (.ptr 3 (.c 0))])), (true, (.intsE .i64 9)), (true, (.intsE .i64 9)), (true, (.agg [(.ptr 5 (.c 0)), (.ptr 7 (.c 0))])), (true, (.agg [pI, pI, pI, (.slice 6 (.c 0) .h 1)])), (true, (.ints .i64)), (true, (.agg [pI, pI, pI, (.slice 8 (.c 0) .h 1)])), (true, (.ints .i64))], [6, 8]⟩]
def g28_0 (c d a e f g h i j k l b m n o p q t u v w x y z a0 a1 a2 a3 a4 a5 a6 a7 a8 a9 b0 b1 : Int) : Option (Nat × List Leaf) :=
  cond (decide (a = 0)) (altK (g37 (0, I8 c m n o p q t u [.i v, .i w])) [fun r => asI8 r (fun b3 b4 b5 b6 b7 b8 b9 c0 r => asI r (fun c1 r => asI r (fun c2 r => asE r (altK (g37 (0, I8 d x y z a0 a1 a2 a3 [.i a4, .i a5])) [fun r => asI8 r (fun c3 c4 c5 c6 c7 c8 c9 d0 r => asI r (fun d1 r => asI r (fun d2 r => asE r (some (0, I8 b3 c3 a e f g h i (I4 j k l b (.n ((2 : Nat)) :: .n ((2 : Nat)) :: I16 b4 b5 b6 b7 b8 b9 c0 c1 c2 c4 c5 c6 c7 c8 c9 d0 (I8 d1 d2 a6 a7 a8 a9 b0 b1 []))))) none) none) none) none] none) none) none) none) none] none) (cond (decide (a = (1 : Int))) (altK (g38 (1, I4 c a6 a7 a8 [])) [fun r => none, fun r => asI4 r (fun d3 d4 d5 d6 r => asN r (fun d7 r => asI r (fun d8 r => asE r (altK (g38 (1, I4 d a9 b0 b1 [])) [fun r => none, fun r => asI4 r (fun d9 e0 e1 e2 r => asN r (fun e3 r => asI r (fun e4 r => asE r (some (1, I8 d3 d9 a e f g h i (I4 j k l b (.n ((2 : Nat)) :: .n ((2 : Nat)) :: I16 m n o p q t u v w x y z a0 a1 a2 a3 (I4 a4 a5 d4 d5 [.i d6, .n d7, .i e0, .i e1, .i e2, .n e3, .i d8, .i e4]))))) none) none) none) none] none) none) none) none) none] none) (cond (decide (a = (2 : Int))) (altK (g39 (0, [.i (IntKind.wrap IntKind.i64 (IntKind.wrap IntKind.i64 (c * b) + (128 : Int))), .i ((256 : Int))])) [fun r => asI r (fun e5 r => asE r (altK (g8 (0, [.i e5])) [fun r => asI r (fun e6 r => asE r (altK (g39 (0, [.i (IntKind.wrap IntKind.i64 (IntKind.wrap IntKind.i64 (d * b) + (128 : Int))), .i ((256 : Int))])) [fun r => asI r (fun e7 r => asE r (altK (g8 (0, [.i e7])) [fun r => asI r (fun e8 r => asE r (some (0, I8 e6 e8 a e f g h i (I4 j k l b (.n ((2 : Nat)) :: .n ((2 : Nat)) :: I16 m n o p q t u v w x y z a0 a1 a2 a3 (I8 a4 a5 a6 a7 a8 a9 b0 b1 []))))) none) none] none) none) none] none) none) none] none) none) none] none) (cond (decide (a = (3 : Int))) (some (0, I8 d c a e f g h i (I4 j k l b (.n ((2 : Nat)) :: .n ((2 : Nat)) :: I16 m n o p q t u v w x y z a0 a1 a2 a3 (I8 a4 a5 a6 a7 a8 a9 b0 b1 []))))) (altK (g39 (0, [.i (IntKind.wrap IntKind.i64 (c + d)), .i ((2 : Int))])) [fun r => asI r (fun b2 r => asE r (some (0, I8 b2 b2 a e f g h i (I4 j k l b (.n ((2 : Nat)) :: .n ((2 : Nat)) :: I16 m n o p q t u v w x y z a0 a1 a2 a3 (I8 a4 a5 a6 a7 a8 a9 b0 b1 []))))) none) none] none))))
def g28_1 (c d a e f g h i j k l b m n o p q t u v w x y z a0 a1 a2 a3 a4 a5 a6 a7 a8 : Int) (a9 : Nat) (b0 : List Int) (b1 b2 b3 : Int) (b4 : Nat) (b5 : List Int) : Option (Nat × List Leaf) :=
  cond (decide (a = 0)) (altK (g37 (0, I8 c m n o p q t u [.i v, .i w])) [fun r => asI8 r (fun b7 b8 b9 c0 c1 c2 c3 c4 r => asI r (fun c5 r => asI r (fun c6 r => asE r (altK (g37 (0, I8 d x y z a0 a1 a2 a3 [.i a4, .i a5])) [fun r => asI8 r (fun c7 c8 c9 d0 d1 d2 d3 d4 r => asI r (fun d5 r => asI r (fun d6 r => asE r (some (2, I8 b7 c7 a e f g h i (I4 j k l b (.n ((2 : Nat)) :: .n ((2 : Nat)) :: I16 b8 b9 c0 c1 c2 c3 c4 c5 c6 c8 c9 d0 d1 d2 d3 d4 (I4 d5 d6 a6 a7 [.i a8, .n a9, .l b0, .i b1, .i b2, .i b3, .n b4, .l b5]))))) none) none) none) none] none) none) none) none) none] none) (cond (decide (a = (1 : Int))) (altK (g38 (0, I4 c a6 a7 a8 [.n a9, .l b0])) [fun r => asI4 r (fun d7 d8 d9 e0 r => asN r (fun e1 r => asL r (fun e2 r => asE r (altK (g38 (0, I4 d b1 b2 b3 [.n b4, .l b5])) [fun r => asI4 r (fun e3 e4 e5 e6 r => asN r (fun e7 r => asL r (fun e8 r => asE r (some (3, I8 d7 e3 a e f g h i (I4 j k l b (.n ((2 : Nat)) :: .n ((2 : Nat)) :: I16 m n o p q t u v w x y z a0 a1 a2 a3 (I4 a4 a5 d8 d9 [.i e0, .n e1, .l e2, .i e4, .i e5, .i e6, .n e7, .l e8]))))) none) none) none) none, fun r => none] none) none) none) none) none, fun r => none] none) (cond (decide (a = (2 : Int))) (altK (g39 (0, [.i (IntKind.wrap IntKind.i64 (IntKind.wrap IntKind.i64 (c * b) + (128 : Int))), .i ((256 : Int))])) [fun r => asI r (fun e9 r => asE r (altK (g8 (0, [.i e9])) [fun r => asI r (fun f0 r => asE r (altK (g39 (0, [.i (IntKind.wrap IntKind.i64 (IntKind.wrap IntKind.i64 (d * b) + (128 : Int))), .i ((256 : Int))])) [fun r => asI r (fun f1 r => asE r (altK (g8 (0, [.i f1])) [fun r => asI r (fun f2 r => asE r (some (2, I8 f0 f2 a e f g h i (I4 j k l b (.n ((2 : Nat)) :: .n ((2 : Nat)) :: I16 m n o p q t u v w x y z a0 a1 a2 a3 (I4 a4 a5 a6 a7 [.i a8, .n a9, .l b0, .i b1, .i b2, .i b3, .n b4, .l b5]))))) none) none] none) none) none] none) none) none] none) none) none] none) (cond (decide (a = (3 : Int))) (some (2, I8 d c a e f g h i (I4 j k l b (.n ((2 : Nat)) :: .n ((2 : Nat)) :: I16 m n o p q t u v w x y z a0 a1 a2 a3 (I4 a4 a5 a6 a7 [.i a8, .n a9, .l b0, .i b1, .i b2, .i b3, .n b4, .l b5]))))) (altK (g39 (0, [.i (IntKind.wrap IntKind.i64 (c + d)), .i ((2 : Int))])) [fun r => asI r (fun b6 r => asE r (some (2, I8 b6 b6 a e f g h i (I4 j k l b (.n ((2 : Nat)) :: .n ((2 : Nat)) :: I16 m n o p q t u v w x y z a0 a1 a2 a3 (I4 a4 a5 a6 a7 [.i a8, .n a9, .l b0, .i b1, .i b2, .i b3, .n b4, .l b5]))))) none) none] none))))
def g28 (s : Nat × List Leaf) : Option (Nat × List Leaf) := match s.1 with
  | 0 => let r := s.2; Ze r (fun a b c d e f g h i j k l m n o p r => Ze r (fun q t u v w x y z a0 a1 a2 a3 a4 a5 a6 a7 r => asI4 r (fun a8 a9 b0 b1 r => asE r (g28_0 a b c d e f g h i j k l m n o p q t u v w x y z a0 a1 a2 a3 a4 a5 a6 a7 a8 a9 b0 b1) none) none) none) none
  | 1 => let r := s.2; Ze r (fun a b c d e f g h i j k l m n o p r => Ze r (fun q t u v w x y z a0 a1 a2 a3 a4 a5 a6 a7 r => asI r (fun a8 r => asN r (fun a9 r => asL r (fun b0 r => asI r (fun b1 r => asI r (fun b2 r => asI r (fun b3 r => asN r (fun b4 r => asL r (fun b5 r => asE r (g28_1 a b c d e f g h i j k l m n o p q t u v w x y z a0 a1 a2 a3 a4 a5 a6 a7 a8 a9 b0 b1 b2 b3 b4 b5) none) none) none) none) none) none) none) none) none) none) none
  | _ => none
def ent28 : Ent := ⟨ain28, aout28, g28⟩
def os28 : List (Orc × List (List Bool)) := []
theorem ok28 (n : Nat) : Zq (evF tab (n + 3)) 28 ent28 :=
  ZC (n := n + 2) (ck28 n) (OK := Zg os28) (body := kc28) (show Zy (Zg os28) (evF tab (n + 2)) kc28 from ⟨trivial, ⟨trivial, ⟨trivial, ⟨⟨trivial, ⟨trivial, trivial⟩⟩, ⟨trivial, ⟨⟨trivial, ⟨trivial, trivial⟩⟩, ⟨trivial, ⟨⟨trivial, ⟨trivial, trivial⟩⟩, ⟨trivial, ⟨⟨trivial, ⟨trivial, trivial⟩⟩, ⟨trivial, ⟨trivial, ⟨trivial, trivial⟩⟩⟩⟩⟩⟩⟩⟩⟩⟩⟩⟩⟩) t28 (by kernel_rfl)
    (Zs (Q := fun i sh => ∀ ls, Zah sh ls (fun args h => fnK (Zz es28) (Zg os28) sf28 kc28 args h (ZE aout28 0) none) none = g28 (i, ls)) (l := ain28) ⟨fun ls => by kernel_rfl, ⟨fun ls => by kernel_rfl, trivial⟩⟩)
def es30 : List (FuncId × Ent × List (List Bool)) := [(40, ent40, [[true]])]
theorem ck30 (n : Nat) : Zx (Zz es30) (evF tab (n + 1)) :=
  Zf (ok40 (n + 0)) (Zu)
def kc30 : KC := (.seq (.reg r30_0) (.seq (.reg r30_1) (.seq (.kill [0]) .ret)))
def ain30 : List APat := [⟨[pI], []⟩]
def aout30 : List RPat := [⟨pI, [], []⟩]
def g30_0 (a : Int) : Option (Nat × List Leaf) :=
  altK (g40 (0, [.i a, .i ((-1 : Int)), .i ((1 : Int))])) [fun r => asI r (fun b r => asE r (some (0, [.i b])) none) none] none
def g30 (s : Nat × List Leaf) : Option (Nat × List Leaf) := match s.1 with
  | 0 => let r := s.2; asI r (fun a r => asE r (g30_0 a) none) none
  | _ => none
def ent30 : Ent := ⟨ain30, aout30, g30⟩
def os30 : List (Orc × List (List Bool)) := []
theorem ok30 (n : Nat) : Zq (evF tab (n + 2)) 30 ent30 :=
  ZC (n := n + 1) (ck30 n) (OK := Zg os30) (body := kc30) (show Zy (Zg os30) (evF tab (n + 1)) kc30 from ⟨trivial, ⟨trivial, ⟨trivial, trivial⟩⟩⟩) t30 (by kernel_rfl)
    (Zs (Q := fun i sh => ∀ ls, Zah sh ls (fun args h => fnK (Zz es30) (Zg os30) sf30 kc30 args h (ZE aout30 0) none) none = g30 (i, ls)) (l := ain30) ⟨fun ls => by kernel_rfl, trivial⟩)
def es18 : List (FuncId × Ent × List (List Bool)) := [(29, ent29, [[true]]), (30, ent30, [[true]])]
theorem ck18 (n : Nat) : Zx (Zz es18) (evF tab (n + 2)) :=
  Zf (ok29 (n + 1)) (Zf (ok30 (n + 0)) (Zu))
def kc18_0 : KC := (.seq (.reg r18_8) (.cond (.t 27) (.reg r18_9) .skip))
def in18_0 : List SPat := [⟨[(0, .unk), (2, (.ptr 1 (.c 0))), (3, (.ptr 2 (.c 0))), (4, pI), (5, pI), (6, pI), (7, pI), (8, .unk), (9, (.slice 0 (.c 0) .h 1)), (10, pI), (11, pI), (12, (.cbool true)), (27, .unk), (59, .unk), (76, .unk), (82, .unk)], [(true, (.ints .i64)), (true, (.intsE .i64 9)), (true, (.intsE .i64 9))], [], 1⟩]
def out18_0 : List (SX × SPat) := [(.normal, ⟨[(0, .unk), (2, (.ptr 1 (.c 0))), (3, (.ptr 2 (.c 0))), (4, pI), (5, pI), (6, pI), (7, pI), (8, .unk), (9, (.slice 0 (.c 0) .h 1)), (10, pI), (11, pI), (12, (.cbool true)), (27, .bool), (59, .unk), (76, .unk), (82, .unk)], [(true, (.ints .i64)), (true, (.intsE .i64 9)), (true, (.intsE .i64 9))], [], 1⟩)]
def f18_0_0 (c d b a : Int) (e : Nat) (f g : Int) (h : List Int) (i j k l m n o p q t u a0 a1 v w x y z : Int) : Option (Nat × List Leaf) :=
  cond (decide (b = 0)) (some (0, I4 c d b a (.n e :: .i f :: .i g :: .b (Bool.true) :: .l h :: I16 i j k l m n o p q t u a a v w x [.i y, .i z]))) (some (0, I4 c d b a (.n e :: .i f :: .i g :: .b (Bool.false) :: .l h :: I16 i j k l m n o p q t u a0 a1 v w x [.i y, .i z])))
def ZkZ (s : Nat × List Leaf) : Option (Nat × List Leaf) := match s.1 with
  | 0 => let r := s.2; asI4 r (fun a b c d r => asN r (fun e r => asI r (fun f r => asI r (fun g r => asL r (fun h r => Ze r (fun i j k l m n o p q t u v w x y z r => asI r (fun a0 r => asI r (fun a1 r => asE r (f18_0_0 a b c d e f g h i j k l m n o p q t u v w x y z a0 a1) none) none) none) none) none) none) none) none) none
  | _ => none
def orc18_0 : Orc := ⟨in18_0, out18_0, ZkZ⟩
def os18_0 : List (Orc × List (List Bool)) := []
theorem snd18_0 (n : Nat) : ZU (evF tab (n + 2)) (.seq (.reg r18_8) (.cond (.t 27) (.reg r18_9) .skip)) orc18_0 :=
  Zbb (b := kc18_0) (OK := Zg os18_0) (o := orc18_0) (ck18 n) (show Zy (Zg os18_0) (evF tab (n + 2)) kc18_0 from ⟨trivial, ⟨trivial, trivial⟩⟩)
    (Zs (Q := fun i sh => ∀ ls, ZaJ sh ls (fun st => evK (Zz es18) (Zg os18_0) kc18_0 st (ZV out18_0 0) none) none = ZkZ (i, ls)) (l := in18_0) ⟨fun ls => by kernel_rfl, trivial⟩)
def kc18_1 : KC := (.seq (.reg r18_13) (.cond (.t 59) (.reg r18_14) .skip))
def in18_1 : List SPat := [⟨[(0, .unk), (2, (.ptr 1 (.c 0))), (3, (.ptr 2 (.c 0))), (4, pI), (5, pI), (6, pI), (7, pI), (8, .unk), (9, (.slice 0 (.c 0) .h 1)), (10, pI), (11, pI), (12, (.cbool true)), (27, .bool), (59, .unk), (76, .unk), (82, .unk)], [(true, (.ints .i64)), (true, (.intsE .i64 9)), (true, (.intsE .i64 9))], [], 1⟩]
def out18_1 : List (SX × SPat) := [(.normal, ⟨[(0, .unk), (2, (.ptr 1 (.c 0))), (3, (.ptr 2 (.c 0))), (4, pI), (5, pI), (6, pI), (7, pI), (8, .unk), (9, (.slice 0 (.c 0) .h 1)), (10, pI), (11, pI), (12, (.cbool true)), (27, .bool), (59, .bool), (76, .unk), (82, .unk)], [(true, (.ints .i64)), (true, (.intsE .i64 9)), (true, (.intsE .i64 9))], [], 1⟩)]
def f18_1_0 (b c d a : Int) (e : Nat) (f g : Int) (h : Bool) (i : List Int) (j k l m n o p q t u v w x y z a0 a1 a2 : Int) : Option (Nat × List Leaf) :=
  cond (decide (a ≤ (-32768 : Int))) (some (0, I4 b c d a (.n e :: .i f :: .i g :: .b h :: .b (Bool.true) :: .l i :: I16 j k l m n o p q t u v w x y z a0 [.i (IntKind.wrap IntKind.i64 (a1 + (1 : Int))), .i a2]))) (cond (decide ((32767 : Int) ≤ a)) (some (0, I4 b c d a (.n e :: .i f :: .i g :: .b h :: .b (Bool.true) :: .l i :: I16 j k l m n o p q t u v w x y z a0 [.i (IntKind.wrap IntKind.i64 (a1 + (1 : Int))), .i a2]))) (some (0, I4 b c d a (.n e :: .i f :: .i g :: .b h :: .b (Bool.false) :: .l i :: I16 j k l m n o p q t u v w x y z a0 [.i a1, .i a2]))))
def Zk0 (s : Nat × List Leaf) : Option (Nat × List Leaf) := match s.1 with
  | 0 => let r := s.2; asI4 r (fun a b c d r => asN r (fun e r => asI r (fun f r => asI r (fun g r => asB r (fun h r => asL r (fun i r => Ze r (fun j k l m n o p q t u v w x y z a0 r => asI r (fun a1 r => asI r (fun a2 r => asE r (f18_1_0 a b c d e f g h i j k l m n o p q t u v w x y z a0 a1 a2) none) none) none) none) none) none) none) none) none) none
  | _ => none
def orc18_1 : Orc := ⟨in18_1, out18_1, Zk0⟩
def os18_1 : List (Orc × List (List Bool)) := [(orc18_0, [[true]])]
theorem snd18_1 (n : Nat) : ZU (evF tab (n + 2)) (.seq (.reg r18_13) (.cond (.t 59) (.reg r18_14) .skip)) orc18_1 :=
  Zbb (b := kc18_1) (OK := Zg os18_1) (o := orc18_1) (ck18 n) (show Zy (Zg os18_1) (evF tab (n + 2)) kc18_1 from ⟨trivial, ⟨trivial, trivial⟩⟩)
    (Zs (Q := fun i sh => ∀ ls, ZaJ sh ls (fun st => evK (Zz es18) (Zg os18_1) kc18_1 st (ZV out18_1 0) none) none = Zk0 (i, ls)) (l := in18_1) ⟨fun ls => by kernel_rfl, trivial⟩)
def kc18_2 : KC := (.seq (.reg r18_16) (.cond (.t 76) (.reg r18_17) .skip))
def in18_2 : List SPat := [⟨[(0, .unk), (2, (.ptr 1 (.c 0))), (3, (.ptr 2 (.c 0))), (4, pI), (5, pI), (6, pI), (7, pI), (8, pI), (9, (.slice 0 (.c 0) .h 1)), (10, pI), (11, pI), (12, (.cbool true)), (27, .bool), (59, .bool), (76, .unk), (82, .unk)], [(true, (.ints .i64)), (true, (.intsE .i64 9)), (true, (.intsE .i64 9))], [], 1⟩]
def out18_2 : List (SX × SPat) := [(.normal, ⟨[(0, .unk), (2, (.ptr 1 (.c 0))), (3, (.ptr 2 (.c 0))), (4, pI), (5, pI), (6, pI), (7, pI), (8, pI), (9, (.slice 0 (.c 0) .h 1)), (10, pI), (11, pI), (12, (.cbool true)), (27, .bool), (59, .bool), (76, .bool), (82, .unk)], [(true, (.ints .i64)), (true, (.intsE .i64 9)), (true, (.intsE .i64 9))], [], 1⟩)]
def f18_2_0 (a c d e b : Int) (f : Nat) (g h : Int) (i : Bool) (j : Bool) (k : List Int) (l m n o p q t u v w x y z a0 a1 a2 a3 a4 : Int) : Option (Nat × List Leaf) :=
  cond (decide (b ≠ 0)) (cond (decide (a ≠ 0)) (cond (decide (b ≠ a)) (some (0, I4 a c d e (.i b :: .n f :: .i g :: .i h :: .b i :: .b j :: .b (Bool.true) :: .l k :: I16 l m n o p q t u v w x y z a0 a1 (IntKind.wrap IntKind.i64 (a2 + (1 : Int))) [.i a3, .i a4]))) (some (0, I4 a c d e (.i b :: .n f :: .i g :: .i h :: .b i :: .b j :: .b (Bool.false) :: .l k :: I16 l m n o p q t u v w x y z a0 a1 a2 [.i a3, .i a4])))) (some (0, I4 a c d e (.i b :: .n f :: .i g :: .i h :: .b i :: .b j :: .b (Bool.false) :: .l k :: I16 l m n o p q t u v w x y z a0 a1 a2 [.i a3, .i a4])))) (some (0, I4 a c d e (.i b :: .n f :: .i g :: .i h :: .b i :: .b j :: .b (Bool.false) :: .l k :: I16 l m n o p q t u v w x y z a0 a1 a2 [.i a3, .i a4])))
def Zk1 (s : Nat × List Leaf) : Option (Nat × List Leaf) := match s.1 with
  | 0 => let r := s.2; asI4 r (fun a b c d r => asI r (fun e r => asN r (fun f r => asI r (fun g r => asI r (fun h r => asB r (fun i r => asB r (fun j r => asL r (fun k r => Ze r (fun l m n o p q t u v w x y z a0 a1 a2 r => asI r (fun a3 r => asI r (fun a4 r => asE r (f18_2_0 a b c d e f g h i j k l m n o p q t u v w x y z a0 a1 a2 a3 a4) none) none) none) none) none) none) none) none) none) none) none) none
  | _ => none
def orc18_2 : Orc := ⟨in18_2, out18_2, Zk1⟩
def os18_2 : List (Orc × List (List Bool)) := [(orc18_0, [[true]]), (orc18_1, [[true]])]
theorem snd18_2 (n : Nat) : ZU (evF tab (n + 2)) (.seq (.reg r18_16) (.cond (.t 76) (.reg r18_17) .skip)) orc18_2 :=
  Zbb (b := kc18_2) (OK := Zg os18_2) (o := orc18_2) (ck18 n) (show Zy (Zg os18_2) (evF tab (n + 2)) kc18_2 from ⟨trivial, ⟨trivial, trivial⟩⟩)
    (Zs (Q := fun i sh => ∀ ls, ZaJ sh ls (fun st => evK (Zz es18) (Zg os18_2) kc18_2 st (ZV out18_2 0) none) none = Zk1 (i, ls)) (l := in18_2) ⟨fun ls => by kernel_rfl, trivial⟩)
def kc18_3 : KC := (.seq (.seq (.reg r18_4) (.seq (.cond (.t 12) .skip (.seq (.kill [0, 4, 5, 6, 7, 8, 9, 10, 11, 12, 27, 59, 76, 82]) (.exit 0))) (.seq (.block 1 (.seq (.reg r18_5) (.seq (.reg r18_6) (.seq (.reg r18_7) (.seq (.orc 0 (.seq (.reg r18_8) (.cond (.t 27) (.reg r18_9) .skip))) (.seq (.reg r18_10) (.seq (.reg r18_11) (.seq (.reg r18_12) (.seq (.orc 1 (.seq (.reg r18_13) (.cond (.t 59) (.reg r18_14) .skip))) (.seq (.reg r18_15) (.seq (.orc 2 (.seq (.reg r18_16) (.cond (.t 76) (.reg r18_17) .skip))) (.seq (.seq (.reg r18_18) (.cond (.t 82) (.reg r18_19) (.reg r18_20))) (.reg r18_21))))))))))))) (.reg r18_22)))) (.kill [0, 6, 7, 8, 12, 27, 59, 76, 82]))
def in18_3 : List SPat := [⟨[(0, .unk), (2, (.ptr 1 (.c 0))), (3, (.ptr 2 (.c 0))), (4, pI), (5, pI), (6, .unk), (7, .unk), (8, .unk), (9, (.slice 0 (.c 0) .h 1)), (10, pI), (11, pI), (12, .unk), (27, .unk), (59, .unk), (76, .unk), (82, .unk)], [(true, (.ints .i64)), (true, (.intsE .i64 9)), (true, (.intsE .i64 9))], [], 1⟩, ⟨[(0, .unk), (2, (.ptr 0 (.c 0))), (3, (.ptr 1 (.c 0))), (4, pI), (5, pI), (6, .unk), (7, .unk), (8, .unk), (9, .nils), (10, pI), (11, pI), (12, .unk), (27, .unk), (59, .unk), (76, .unk), (82, .unk)], [(true, (.intsE .i64 9)), (true, (.intsE .i64 9))], [], 0⟩]
def out18_3 : List (SX × SPat) := [((.exit 0), ⟨[(0, .unk), (2, (.ptr 1 (.c 0))), (3, (.ptr 2 (.c 0))), (4, .unk), (5, .unk), (6, .unk), (7, .unk), (8, .unk), (9, .unk), (10, .unk), (11, .unk), (12, .unk), (27, .unk), (59, .unk), (76, .unk), (82, .unk)], [(true, (.ints .i64)), (true, (.intsE .i64 9)), (true, (.intsE .i64 9))], [], 1⟩), ((.exit 0), ⟨[(0, .unk), (2, (.ptr 0 (.c 0))), (3, (.ptr 1 (.c 0))), (4, .unk), (5, .unk), (6, .unk), (7, .unk), (8, .unk), (9, .unk), (10, .unk), (11, .unk), (12, .unk), (27, .unk), (59, .unk), (76, .unk), (82, .unk)], [(true, (.intsE .i64 9)), (true, (.intsE .i64 9))], [], 0⟩)]
def f18_3_0 (c8 c9 : Int) (g : Nat) (h b : Int) (d : List Int) (i j k l m n o p q t e u v w x y z a0 : Int) : Option (Nat × List Leaf) :=
  cond (decide (b < h)) (if 0 ≤ b ∧ b < (↑g : Int) then optK (d[Int.toNat b]?) (fun a1 => altK (g29 (0, [.i a1])) [fun r => asI r (fun a2 r => asE r (altK (ZkZ (0, I4 c8 c9 b a1 (.n g :: .i h :: .i b :: .l d :: I16 i j k l m n o p q (IntKind.wrap IntKind.i64 (t + (1 : Int))) (if a2 > e then a2 else e) u v w x y [.i z, .i a0]))) [fun r => asI4 r (fun d0 d1 d2 a r => asN r (fun d3 r => asI r (fun d4 r => asI r (fun d5 r => asB r (fun d6 r => asL r (fun d7 r => Ze r (fun d8 d9 e0 e1 e2 e3 e4 e5 e6 e7 e8 a3 a4 e9 f0 f1 r => asI r (fun f2 r => asI r (fun f3 r => asE r (altK (Zk0 (0, I4 d0 d1 d2 a (.n d3 :: .i d4 :: .i d5 :: .b d6 :: .l d7 :: I16 d8 d9 e0 e1 e2 e3 e4 e5 e6 e7 e8 (if a < a3 then a else a3) (if a > a4 then a else a4) (IntKind.wrap IntKind.i64 (e9 + a)) (IntKind.wrap IntKind.i64 (f0 + IntKind.wrap IntKind.i64 (a * a))) f1 [.i f2, .i f3]))) [fun r => asI4 r (fun f4 f5 f6 a5 r => asN r (fun f7 r => asI r (fun f8 r => asI r (fun f9 r => asB r (fun g0 r => asB r (fun g1 r => asL r (fun g2 r => Ze r (fun g3 g4 g5 g6 g7 g8 g9 h0 h1 h2 h3 h4 h5 h6 h7 h8 r => asI r (fun h9 r => asI r (fun i0 r => asE r (altK (g30 (0, [.i a5])) [fun r => asI r (fun i1 r => asE r (altK (Zk1 (0, I4 f4 f5 f6 a5 (.i i1 :: .n f7 :: .i f8 :: .i f9 :: .b g0 :: .b g1 :: .l g2 :: I16 g3 g4 g5 g6 g7 g8 g9 h0 h1 h2 h3 h4 h5 h6 h7 h8 [.i h9, .i i0]))) [fun r => asI4 r (fun i2 f i3 i4 r => asI r (fun a6 r => asN r (fun a7 r => asI r (fun a8 r => asI r (fun a9 r => asB r (fun i5 r => asB r (fun i6 r => asB r (fun i7 r => asL r (fun b0 r => Ze r (fun b1 b2 b3 b4 b5 b6 b7 b8 b9 c0 c1 c2 c3 c4 c5 c6 r => asI r (fun c7 r => asI r (fun c r => asE r (cond (decide (a6 ≠ 0)) (some (0, .i a6 :: .i (0) :: .n a7 :: .i a8 :: .i (IntKind.wrap IntKind.i64 (a9 + (1 : Int))) :: .l b0 :: I16 b1 b2 b3 b4 b5 b6 b7 b8 b9 c0 c1 c2 c3 c4 c5 c6 [.i c7, .i (if 0 > c then 0 else c)])) (some (0, .i i2 :: .i (IntKind.wrap IntKind.i64 (f + (1 : Int))) :: .n a7 :: .i a8 :: .i (IntKind.wrap IntKind.i64 (a9 + (1 : Int))) :: .l b0 :: I16 b1 b2 b3 b4 b5 b6 b7 b8 b9 c0 c1 c2 c3 c4 c5 c6 [.i c7, .i (if IntKind.wrap IntKind.i64 (f + (1 : Int)) > c then IntKind.wrap IntKind.i64 (f + (1 : Int)) else c)]))) none) none) none) none) none) none) none) none) none) none) none) none) none] none) none) none] none) none) none) none) none) none) none) none) none) none) none) none] none) none) none) none) none) none) none) none) none) none) none] none) none) none] none) (none) else none) (some (2, .l d :: I16 i j k l m n o p q t e u v w x y [.i z, .i a0]))
def f18_3_1 (w x a b c d e f g h i j k l m n o p q t u v : Int) : Option (Nat × List Leaf) :=
  cond (decide (b < a)) (none) (some (3, I16 c d e f g h i j k l m n o p q t [.i u, .i v]))
def f18_3 (s : Nat × List Leaf) : Option (Nat × List Leaf) := match s.1 with
  | 0 => let r := s.2; asI r (fun a r => asI r (fun b r => asN r (fun n r => asI r (fun c r => asI r (fun d r => asL r (fun o r => Ze r (fun e f g h i j k l m p q t u v w x r => asI r (fun y r => asI r (fun z r => asE r (f18_3_0 a b n c d o e f g h i j k l m p q t u v w x y z) none) none) none) none) none) none) none) none) none) none
  | 1 => let r := s.2; Ze r (fun a b c d a0 a1 a2 a3 a4 a5 a6 a7 a8 e f g r => asI4 r (fun h i j k r => asI r (fun l r => asI r (fun m r => asE r (f18_3_1 a b c d a0 a1 a2 a3 a4 a5 a6 a7 a8 e f g h i j k l m) none) none) none) none) none
  | _ => none
def Zk2 (s : Nat × List Leaf) : Option (Nat × List Leaf) := ZbN 2 f18_3 s
def orc18_3 : Orc := ⟨in18_3, out18_3, Zk2⟩
def os18_3 : List (Orc × List (List Bool)) := [(orc18_0, [[true]]), (orc18_1, [[true]]), (orc18_2, [[true]])]
theorem snd18_3 (n : Nat) : ZU (evF tab (n + 2)) (.loop l18_23) orc18_3 :=
  ZX (b := kc18_3) (OK := Zg os18_3) (ck18 n) (show Zy (Zg os18_3) (evF tab (n + 2)) kc18_3 from ⟨⟨trivial, ⟨⟨trivial, ⟨trivial, trivial⟩⟩, ⟨⟨trivial, ⟨trivial, ⟨trivial, ⟨(Z2 (os := os18_3) (i := 0) (o := orc18_0) rfl (snd18_0 n)), ⟨trivial, ⟨trivial, ⟨trivial, ⟨(Z2 (os := os18_3) (i := 1) (o := orc18_1) rfl (snd18_1 n)), ⟨trivial, ⟨(Z2 (os := os18_3) (i := 2) (o := orc18_2) rfl (snd18_2 n)), ⟨⟨trivial, ⟨trivial, trivial⟩⟩, trivial⟩⟩⟩⟩⟩⟩⟩⟩⟩⟩⟩, trivial⟩⟩⟩, trivial⟩) (ins := in18_3) (outs := out18_3) (f := f18_3) (by kernel_rfl)
    (Zs (Q := fun i sh => ∀ ls, ZaJ sh ls (fun st => evK (Zz es18) (Zg os18_3) kc18_3 st (ZV (in18_3.map (SX.normal, ·) ++ out18_3) 0) none) none = f18_3 (i, ls)) (l := in18_3) ⟨fun ls => by kernel_rfl, ⟨fun ls => by kernel_rfl, trivial⟩⟩)
def kc18 : KC := (.seq (.reg r18_0) (.seq (.reg r18_1) (.seq (.reg r18_2) (.seq (.seq (.reg r18_3) (.block 0 (.seq (.kill [0, 6, 7, 8, 12, 27, 59, 76, 82]) (.orc 3 (.loop l18_23))))) (.seq (.reg r18_24) (.seq (.kill [0, 3, 4, 5, 6, 7, 8, 9, 10, 11, 12, 27, 59, 76, 82]) .ret))))))
def ain18 : List APat := [⟨[(.slice 0 (.c 0) .h 1)], [(true, (.ints .i64))]⟩, ⟨[.nils], []⟩]
def aout18 : List RPat := [⟨(.intsE .i64 9), [(true, (.ints .i64))], []⟩, ⟨(.intsE .i64 9), [], []⟩]
def g18_0 (a : Nat) (b : List Int) : Option (Nat × List Leaf) :=
  altK (Zk2 (0, .i (0) :: .i (0) :: .n a :: .i ((↑a : Int)) :: .i (0) :: .l b :: I16 (0) (0) (0) (0) (0) (0) (0) (0) (0) (0) (0) (0) (0) (0) (0) (0) [.i (0), .i (0)])) [fun r => asL r (fun c r => Ze r (fun m n o p q t u v w d e f g h i j r => asI r (fun k r => asI r (fun l r => asE r (some (0, I8 d e f g h i j k [.i l, .l c])) none) none) none) none) none, fun r => none] none
def g18_1  : Option (Nat × List Leaf) :=
  altK (Zk2 (1, I16 (0) (0) (0) (0) (0) (0) (0) (0) (0) (0) (0) (0) (0) (0) (0) (0) (I4 (0) (0) (0) (0) [.i (0), .i (0)]))) [fun r => none, fun r => Ze r (fun j k l m n o p q t a b c d e f g r => asI r (fun h r => asI r (fun i r => asE r (some (1, I8 a b c d e f g h [.i i])) none) none) none) none] none
def g18 (s : Nat × List Leaf) : Option (Nat × List Leaf) := match s.1 with
  | 0 => let r := s.2; asN r (fun a r => asL r (fun b r => asE r (g18_0 a b) none) none) none
  | 1 => let r := s.2; asE r (g18_1) none
  | _ => none
def ent18 : Ent := ⟨ain18, aout18, g18⟩
def os18 : List (Orc × List (List Bool)) := [(orc18_0, [[true]]), (orc18_1, [[true]]), (orc18_2, [[true]]), (orc18_3, [[true, false], [false, true]])]
theorem ok18 (n : Nat) : Zq (evF tab (n + 3)) 18 ent18 :=
  ZC (n := n + 2) (ck18 n) (OK := Zg os18) (body := kc18) (show Zy (Zg os18) (evF tab (n + 2)) kc18 from ⟨trivial, ⟨trivial, ⟨trivial, ⟨⟨trivial, ⟨trivial, (Z2 (os := os18) (i := 3) (o := orc18_3) rfl (snd18_3 n))⟩⟩, ⟨trivial, ⟨trivial, trivial⟩⟩⟩⟩⟩⟩) t18 (by kernel_rfl)
    (Zs (Q := fun i sh => ∀ ls, Zah sh ls (fun args h => fnK (Zz es18) (Zg os18) sf18 kc18 args h (ZE aout18 0) none) none = g18 (i, ls)) (l := ain18) ⟨fun ls => by kernel_rfl, ⟨fun ls => by kernel_rfl, trivial⟩⟩)
def es17 : List (FuncId × Ent × List (List Bool)) := []
theorem ck17 (n : Nat) : Zx (Zz es17) (evF tab (n + 0)) :=
  Zu
def kc17 : KC := (.seq (.reg r17_0) (.seq (.block 0 (.seq (.reg r17_1) (.cond (.t 5) (.seq (.reg r17_2) (.seq (.kill [0, 1, 2, 3, 5, 10]) .ret)) (.seq (.reg r17_3) (.cond (.t 10) (.seq (.reg r17_4) (.seq (.kill [0, 1, 2, 3, 5, 10]) .ret)) .skip))))) (.seq (.reg r17_5) (.seq (.kill [0, 1, 2, 3, 5, 10]) .ret))))
def ain17 : List APat := [⟨[(.intsE .i64 9), (.intsE .i64 9)], []⟩]
def aout17 : List RPat := [⟨(.intsE .i64 9), [], []⟩]
def g17_0 (a b c d k l m n e f g h i o p q t j : Int) : Option (Nat × List Leaf) :=
  cond (decide (a = 0)) (some (0, I8 f g h i o p q t [.i j])) (cond (decide (f = 0)) (some (0, I8 a b c d k l m n [.i e])) (some (0, I8 (IntKind.wrap IntKind.i64 (a + f)) (if g > b then g else b) (if h < c then h else c) (if i > d then i else d) (IntKind.wrap IntKind.i64 (k + o)) (IntKind.wrap IntKind.i64 (l + p)) (IntKind.wrap IntKind.i64 (m + q)) (IntKind.wrap IntKind.i64 (n + t)) [.i (if j > e then j else e)])))
def g17 (s : Nat × List Leaf) : Option (Nat × List Leaf) := match s.1 with
  | 0 => let r := s.2; Ze r (fun a b c d e f g h i j k l m n o p r => asI r (fun q r => asI r (fun t r => asE r (g17_0 a b c d e f g h i j k l m n o p q t) none) none) none) none
  | _ => none
def ent17 : Ent := ⟨ain17, aout17, g17⟩
def os17 : List (Orc × List (List Bool)) := []
theorem ok17 (n : Nat) : Zq (evF tab (n + 1)) 17 ent17 :=
  ZC (n := n + 0) (ck17 n) (OK := Zg os17) (body := kc17) (show Zy (Zg os17) (evF tab (n + 0)) kc17 from ⟨trivial, ⟨⟨trivial, ⟨⟨trivial, ⟨trivial, trivial⟩⟩, ⟨trivial, ⟨⟨trivial, ⟨trivial, trivial⟩⟩, trivial⟩⟩⟩⟩, ⟨trivial, ⟨trivial, trivial⟩⟩⟩⟩) t17 (by kernel_rfl)
    (Zs (Q := fun i sh => ∀ ls, Zah sh ls (fun args h => fnK (Zz es17) (Zg os17) sf17 kc17 args h (ZE aout17 0) none) none = g17 (i, ls)) (l := ain17) ⟨fun ls => by kernel_rfl, trivial⟩)
def es16 : List (FuncId × Ent × List (List Bool)) := []
theorem ck16 (n : Nat) : Zx (Zz es16) (evF tab (n + 0)) :=
  Zu
def kc16_0 : KC := (.seq (.seq (.reg r16_3) (.seq (.cond (.t 11) .skip (.seq (.kill [0, 2, 3, 7, 8, 9, 10, 11]) (.exit 0))) (.seq (.block 1 (.seq (.reg r16_4) (.reg r16_5))) (.reg r16_6)))) (.seq (.kill [0, 2, 3, 7, 11]) .tidy))
def in16_0 : List SPat := [⟨[(0, .unk), (2, .unk), (3, .unk), (4, .nils), (5, .nils), (7, .unk), (8, (.slice 0 (.c 0) .h 2)), (9, pI), (10, pI), (11, .unk)], [(true, (.ints .i64))], [], 1⟩, ⟨[(0, .unk), (2, .unk), (3, .unk), (4, .nils), (5, .nils), (7, .unk), (8, .nils), (9, pI), (10, pI), (11, .unk)], [], [], 0⟩, ⟨[(0, .unk), (2, .unk), (3, .unk), (4, (.slice 1 (.c 0) .h 1)), (5, (.slice 2 (.c 0) .h 1)), (7, .unk), (8, (.slice 0 (.c 0) .h 2)), (9, pI), (10, pI), (11, .unk)], [(true, (.ints .i64)), (true, (.ints .i64)), (true, (.ints .i64))], [], 1⟩]
def out16_0 : List (SX × SPat) := [((.exit 0), ⟨[(0, .unk), (2, .unk), (3, .unk), (4, .nils), (5, .nils), (7, .unk), (8, .unk), (9, .unk), (10, .unk), (11, .unk)], [(true, (.ints .i64))], [], 1⟩), ((.exit 0), ⟨[(0, .unk), (2, .unk), (3, .unk), (4, .nils), (5, .nils), (7, .unk), (8, .unk), (9, .unk), (10, .unk), (11, .unk)], [], [], 0⟩), ((.exit 0), ⟨[(0, .unk), (2, .unk), (3, .unk), (4, (.slice 1 (.c 0) .h 1)), (5, (.slice 2 (.c 0) .h 1)), (7, .unk), (8, .unk), (9, .unk), (10, .unk), (11, .unk)], [(true, (.ints .i64)), (true, (.ints .i64)), (true, (.ints .i64))], [], 1⟩)]
def f16_0_0 (c : Nat) (d a : Int) (b : List Int) : Option (Nat × List Leaf) :=
  cond (decide (a < d)) (if 0 ≤ a ∧ a < (↑c : Int) then if Int.toNat a * (2 : Nat) + (2 : Nat) ≤ List.length b then some (2, [.n ((1 : Nat)), .n ((1 : Nat)), .n c, .i d, .i (IntKind.wrap IntKind.i64 (a + (1 : Int))), .l b, .l ([List.getD b (Int.toNat a * (2 : Nat)) 0]), .l ([List.getD b (Int.toNat a * (2 : Nat) + (1 : Nat)) 0])]) else none else none) (some (3, [.l b]))
def f16_0_1 (a b : Int) : Option (Nat × List Leaf) :=
  cond (decide (b < a)) (none) (some (4, []))
def f16_0_2 (c : Nat) (d : Nat) (g : Nat) (h a : Int) (b : List Int) (e : List Int) (f : List Int) : Option (Nat × List Leaf) :=
  cond (decide (a < h)) (if 0 ≤ a ∧ a < (↑g : Int) then if Int.toNat a * (2 : Nat) + (2 : Nat) ≤ List.length b then if (c + (1 : Nat)) * (8 : Nat) ≤ (70368744177664 : Nat) then if List.length e = c * (1 : Nat) then if (d + (1 : Nat)) * (8 : Nat) ≤ (70368744177664 : Nat) then if List.length f = d * (1 : Nat) then some (2, [.n (c + (1 : Nat)), .n (d + (1 : Nat)), .n g, .i h, .i (IntKind.wrap IntKind.i64 (a + (1 : Int))), .l b, .l (e ++ [List.getD b (Int.toNat a * (2 : Nat)) 0]), .l (f ++ [List.getD b (Int.toNat a * (2 : Nat) + (1 : Nat)) 0])]) else none else none else none else none else none else none) (some (5, [.n c, .n d, .l b, .l e, .l f]))
def f16_0 (s : Nat × List Leaf) : Option (Nat × List Leaf) := match s.1 with
  | 0 => let r := s.2; asN r (fun c r => asI r (fun a r => asI r (fun b r => asL r (fun d r => asE r (f16_0_0 c a b d) none) none) none) none) none
  | 1 => let r := s.2; asI r (fun a r => asI r (fun b r => asE r (f16_0_1 a b) none) none) none
  | 2 => let r := s.2; asN r (fun e r => asN r (fun f r => asN r (fun c r => asI r (fun a r => asI r (fun b r => asL r (fun d r => asL r (fun g r => asL r (fun h r => asE r (f16_0_2 e f c a b d g h) none) none) none) none) none) none) none) none) none
  | _ => none
def Zjv (s : Nat × List Leaf) : Option (Nat × List Leaf) := ZbN 3 f16_0 s
def orc16_0 : Orc := ⟨in16_0, out16_0, Zjv⟩
def os16_0 : List (Orc × List (List Bool)) := []
theorem snd16_0 (n : Nat) : ZU (evF tab (n + 0)) (.loop l16_7) orc16_0 :=
  ZX (b := kc16_0) (OK := Zg os16_0) (ck16 n) (show Zy (Zg os16_0) (evF tab (n + 0)) kc16_0 from ⟨⟨trivial, ⟨⟨trivial, ⟨trivial, trivial⟩⟩, ⟨⟨trivial, trivial⟩, trivial⟩⟩⟩, ⟨trivial, trivial⟩⟩) (ins := in16_0) (outs := out16_0) (f := f16_0) (by kernel_rfl)
    (Zs (Q := fun i sh => ∀ ls, ZaJ sh ls (fun st => evK (Zz es16) (Zg os16_0) kc16_0 st (ZV (in16_0.map (SX.normal, ·) ++ out16_0) 0) none) none = f16_0 (i, ls)) (l := in16_0) ⟨fun ls => by kernel_rfl, ⟨fun ls => by kernel_rfl, ⟨fun ls => by kernel_rfl, trivial⟩⟩⟩)
def kc16 : KC := (.seq (.reg r16_0) (.seq (.reg r16_1) (.seq (.seq (.reg r16_2) (.block 0 (.seq (.kill [0, 2, 3, 7, 11]) (.orc 0 (.loop l16_7))))) (.seq (.reg r16_8) (.seq (.kill [0, 4, 5, 7, 8, 9, 10, 11]) .ret)))))
def ain16 : List APat := [⟨[(.slice 0 (.c 0) .h 2)], [(true, (.ints .i64))]⟩, ⟨[.nils], []⟩]
def aout16 : List RPat := [⟨(.tup [.nils, .nils]), [(true, (.ints .i64))], []⟩, ⟨(.tup [(.slice 1 (.c 0) .h 1), (.slice 2 (.c 0) .h 1)]), [(true, (.ints .i64)), (true, (.ints .i64)), (true, (.ints .i64))], []⟩, ⟨(.tup [.nils, .nils]), [], []⟩]
def g16_0 (a : Nat) (b : List Int) : Option (Nat × List Leaf) :=
  altK (Zjv (0, [.n a, .i ((↑a : Int)), .i (0), .l b])) [fun r => asL r (fun c r => asE r (some (0, [.l c])) none) none, fun r => none, fun r => asN r (fun d r => asN r (fun e r => asL r (fun f r => asL r (fun g r => asL r (fun h r => asE r (some (1, [.n d, .n e, .l f, .l g, .l h])) none) none) none) none) none) none] none
def g16_1  : Option (Nat × List Leaf) :=
  altK (Zjv (1, [.i (0), .i (0)])) [fun r => none, fun r => asE r (some (2, [])) none, fun r => none] none
def g16 (s : Nat × List Leaf) : Option (Nat × List Leaf) := match s.1 with
  | 0 => let r := s.2; asN r (fun a r => asL r (fun b r => asE r (g16_0 a b) none) none) none
  | 1 => let r := s.2; asE r (g16_1) none
  | _ => none
def ent16 : Ent := ⟨ain16, aout16, g16⟩
def os16 : List (Orc × List (List Bool)) := [(orc16_0, [[true, false, true], [false, true, false], [false, false, true]])]
theorem ok16 (n : Nat) : Zq (evF tab (n + 1)) 16 ent16 :=
  ZC (n := n + 0) (ck16 n) (OK := Zg os16) (body := kc16) (show Zy (Zg os16) (evF tab (n + 0)) kc16 from ⟨trivial, ⟨trivial, ⟨⟨trivial, ⟨trivial, (Z2 (os := os16) (i := 0) (o := orc16_0) rfl (snd16_0 n))⟩⟩, ⟨trivial, ⟨trivial, trivial⟩⟩⟩⟩⟩) t16 (by kernel_rfl)
    (Zs (Q := fun i sh => ∀ ls, Zah sh ls (fun args h => fnK (Zz es16) (Zg os16) sf16 kc16 args h (ZE aout16 0) none) none = g16 (i, ls)) (l := ain16) ⟨fun ls => by kernel_rfl, ⟨fun ls => by kernel_rfl, trivial⟩⟩)
def es12 : List (FuncId × Ent × List (List Bool)) := []
theorem ck12 (n : Nat) : Zx (Zz es12) (evF tab (n + 0)) :=
  Zu
def kc12_0 : KC := (.seq (.seq (.reg r12_5) (.seq (.cond (.t 14) .skip (.seq (.kill [0, 2, 5, 7, 11, 12, 13, 14]) (.exit 0))) (.seq (.block 1 (.seq (.reg r12_6) (.reg r12_7))) (.reg r12_8)))) (.seq (.kill [0, 2, 5, 7, 14]) .tidy))
def in12_0 : List SPat := [⟨[(0, .unk), (2, .unk), (3, .nils), (5, .unk), (7, .unk), (11, (.slice 1 (.c 0) .h 14)), (12, pI), (13, pI), (14, .unk)], [(true, pF0), (false, (.tree 14))], [], 2⟩, ⟨[(0, .unk), (2, .unk), (3, .nils), (5, .unk), (7, .unk), (11, .nils), (12, pI), (13, pI), (14, .unk)], [(true, pF1)], [], 1⟩, ⟨[(0, .unk), (2, .unk), (3, (.slice 2 (.c 0) .h 10)), (5, .unk), (7, .unk), (11, (.slice 1 (.c 0) .h 14)), (12, pI), (13, pI), (14, .unk)], [(true, pF0), (false, (.tree 14)), (true, (.ints .i64))], [], 2⟩]
def out12_0 : List (SX × SPat) := [((.exit 0), ⟨[(0, .unk), (2, .unk), (3, .nils), (5, .unk), (7, .unk), (11, .unk), (12, .unk), (13, .unk), (14, .unk)], [(true, pF0), (false, (.tree 14))], [], 2⟩), ((.exit 0), ⟨[(0, .unk), (2, .unk), (3, .nils), (5, .unk), (7, .unk), (11, .unk), (12, .unk), (13, .unk), (14, .unk)], [(true, pF1)], [], 1⟩), ((.exit 0), ⟨[(0, .unk), (2, .unk), (3, (.slice 2 (.c 0) .h 10)), (5, .unk), (7, .unk), (11, .unk), (12, .unk), (13, .unk), (14, .unk)], [(true, pF0), (false, (.tree 14)), (true, (.ints .i64))], [], 2⟩)]
def f12_0_0 (d : Nat) (e b : Int) (f : Nat) (g h i j k l m n o p q t u v w x y z a0 : Int) (c : List ME) : Option (Nat × List Leaf) :=
  cond (decide (b < e)) (if 0 ≤ b ∧ b < (↑d : Int) then if Int.toNat b * (14 : Nat) % (14 : Nat) = (0 : Nat) then optK (c[Int.toNat b * (14 : Nat) / (14 : Nat)]?) (fun a => if Zfu (10 : Nat) (14 : Nat) a = Bool.true then some (2, .n ((1 : Nat)) :: .n d :: .i e :: .i (IntKind.wrap IntKind.i64 (b + (1 : Int))) :: .n f :: I16 g h i j k l m n o p q t u v w x [.i y, .i z, .i a0, .t (c), .l ([Z1 a (0 : Nat), Z1 a (1 : Nat), Z1 a (2 : Nat), Z1 a (3 : Nat), Z1 a (4 : Nat), Z1 a (5 : Nat), Z1 a (6 : Nat), Z1 a (7 : Nat), Z1 a (8 : Nat), Z1 a (9 : Nat)])]) else none) (none) else none else none) (some (3, .n f :: I16 g h i j k l m n o p q t u v w x [.i y, .i z, .i a0, .t (c)]))
def f12_0_1 (a b c d e f g h i j k l m n o p q t u v w : Int) : Option (Nat × List Leaf) :=
  cond (decide (b < a)) (none) (some (4, I16 c d e f g h i j k l m n o p q t [.i u, .i v, .i w]))
def f12_0_2 (c : Nat) (f : Nat) (g b : Int) (h : Nat) (i j k l m n o p q t u v w x y z a0 a1 a2 : Int) (d : List ME) (e : List Int) : Option (Nat × List Leaf) :=
  cond (decide (b < g)) (if 0 ≤ b ∧ b < (↑f : Int) then if Int.toNat b * (14 : Nat) % (14 : Nat) = (0 : Nat) then optK (d[Int.toNat b * (14 : Nat) / (14 : Nat)]?) (fun a => if Zfu (10 : Nat) (14 : Nat) a = Bool.true then if (c + (1 : Nat)) * (80 : Nat) ≤ (70368744177664 : Nat) then if List.length e = c * (10 : Nat) then some (2, .n (c + (1 : Nat)) :: .n f :: .i g :: .i (IntKind.wrap IntKind.i64 (b + (1 : Int))) :: .n h :: I16 i j k l m n o p q t u v w x y z [.i a0, .i a1, .i a2, .t (d), .l (e ++ [Z1 a (0 : Nat), Z1 a (1 : Nat), Z1 a (2 : Nat), Z1 a (3 : Nat), Z1 a (4 : Nat), Z1 a (5 : Nat), Z1 a (6 : Nat), Z1 a (7 : Nat), Z1 a (8 : Nat), Z1 a (9 : Nat)])]) else none else none else none) (none) else none else none) (some (5, .n c :: .n h :: I16 i j k l m n o p q t u v w x y z [.i a0, .i a1, .i a2, .t (d), .l e]))
def f12_0 (s : Nat × List Leaf) : Option (Nat × List Leaf) := match s.1 with
  | 0 => let r := s.2; asN r (fun x r => asI r (fun a r => asI r (fun b r => asN r (fun y r => Ze r (fun c d e f g h i j k l m n o p q t r => asI r (fun u r => asI r (fun v r => asI r (fun w r => asT r (fun z r => asE r (f12_0_0 x a b y c d e f g h i j k l m n o p q t u v w z) none) none) none) none) none) none) none) none) none) none
  | 1 => let r := s.2; Ze r (fun a b c d e f g h i j k l m n o p r => asI4 r (fun q t u v r => asI r (fun w r => asE r (f12_0_1 a b c d e f g h i j k l m n o p q t u v w) none) none) none) none
  | 2 => let r := s.2; asN r (fun a0 r => asN r (fun x r => asI r (fun a r => asI r (fun b r => asN r (fun y r => Ze r (fun c d e f g h i j k l m n o p q t r => asI r (fun u r => asI r (fun v r => asI r (fun w r => asT r (fun z r => asL r (fun a1 r => asE r (f12_0_2 a0 x a b y c d e f g h i j k l m n o p q t u v w z a1) none) none) none) none) none) none) none) none) none) none) none) none
  | _ => none
def Zjw (s : Nat × List Leaf) : Option (Nat × List Leaf) := ZbN 3 f12_0 s
def orc12_0 : Orc := ⟨in12_0, out12_0, Zjw⟩
def os12_0 : List (Orc × List (List Bool)) := []
theorem snd12_0 (n : Nat) : ZU (evF tab (n + 0)) (.loop l12_9) orc12_0 :=
  ZX (b := kc12_0) (OK := Zg os12_0) (ck12 n) (show Zy (Zg os12_0) (evF tab (n + 0)) kc12_0 from ⟨⟨trivial, ⟨⟨trivial, ⟨trivial, trivial⟩⟩, ⟨⟨trivial, trivial⟩, trivial⟩⟩⟩, ⟨trivial, trivial⟩⟩) (ins := in12_0) (outs := out12_0) (f := f12_0) (by kernel_rfl)
    (Zs (Q := fun i sh => ∀ ls, ZaJ sh ls (fun st => evK (Zz es12) (Zg os12_0) kc12_0 st (ZV (in12_0.map (SX.normal, ·) ++ out12_0) 0) none) none = f12_0 (i, ls)) (l := in12_0) ⟨fun ls => by kernel_rfl, ⟨fun ls => by kernel_rfl, ⟨fun ls => by kernel_rfl, trivial⟩⟩⟩)
def kc12 : KC := (.seq (.reg r12_0) (.seq (.seq (.reg r12_1) (.cond (.t 7) (.seq (.reg r12_2) (.seq (.kill [0, 3, 5, 7, 11, 12, 13, 14]) .ret)) .skip)) (.seq (.reg r12_3) (.seq (.seq (.reg r12_4) (.block 0 (.seq (.kill [0, 2, 5, 7, 14]) (.orc 0 (.loop l12_9))))) (.seq (.reg r12_10) (.seq (.kill [0, 3, 5, 7, 11, 12, 13, 14]) .ret))))))
def ain12 : List APat := [⟨[(.ptr 0 (.c 0))], [(true, pF0), (false, (.tree 14))]⟩, ⟨[(.ptr 0 (.c 0))], [(true, pF1)]⟩]
def aout12 : List RPat := [⟨.nils, [(true, pF0), (false, (.tree 14))], []⟩, ⟨(.slice 2 (.c 0) .h 10), [(true, pF0), (false, (.tree 14)), (true, (.ints .i64))], []⟩, ⟨.nils, [(true, pF1)], []⟩]
def g12_0 (a : Nat) (b c d e f g h i j k l m n o p q t u v : Int) (w : List ME) : Option (Nat × List Leaf) :=
  altK (Zjw (0, .n a :: .i ((↑a : Int)) :: .i (0) :: .n a :: I16 b c d e f g h i j k l m n o p q [.i t, .i u, .i v, .t (w)])) [fun r => asN r (fun x r => Ze r (fun y z a0 a1 a2 a3 a4 a5 a6 a7 a8 a9 b0 b1 b2 b3 r => asI r (fun b4 r => asI r (fun b5 r => asI r (fun b6 r => asT r (fun b7 r => asE r (some (0, .n x :: I16 y z a0 a1 a2 a3 a4 a5 a6 a7 a8 a9 b0 b1 b2 b3 [.i b4, .i b5, .i b6, .t (b7)])) none) none) none) none) none) none) none, fun r => none, fun r => asN r (fun b8 r => asN r (fun b9 r => Ze r (fun c0 c1 c2 c3 c4 c5 c6 c7 c8 c9 d0 d1 d2 d3 d4 d5 r => asI r (fun d6 r => asI r (fun d7 r => asI r (fun d8 r => asT r (fun d9 r => asL r (fun e0 r => asE r (some (1, .n b8 :: .n b9 :: I16 c0 c1 c2 c3 c4 c5 c6 c7 c8 c9 d0 d1 d2 d3 d4 d5 [.i d6, .i d7, .i d8, .t (d9), .l e0])) none) none) none) none) none) none) none) none) none] none
def g12_1 (a b c d e f g h i j k l m n o p q t u : Int) : Option (Nat × List Leaf) :=
  altK (Zjw (1, I16 (0) (0) a b c d e f g h i j k l m n (I4 o p q t [.i u]))) [fun r => none, fun r => Ze r (fun v w x y z a0 a1 a2 a3 a4 a5 a6 a7 a8 a9 b0 r => asI r (fun b1 r => asI r (fun b2 r => asI r (fun b3 r => asE r (some (2, I16 v w x y z a0 a1 a2 a3 a4 a5 a6 a7 a8 a9 b0 [.i b1, .i b2, .i b3])) none) none) none) none) none, fun r => none] none
def g12 (s : Nat × List Leaf) : Option (Nat × List Leaf) := match s.1 with
  | 0 => let r := s.2; asN r (fun a r => Ze r (fun b c d e f g h i j k l m n o p q r => asI r (fun t r => asI r (fun u r => asI r (fun v r => asT r (fun w r => asE r (g12_0 a b c d e f g h i j k l m n o p q t u v w) none) none) none) none) none) none) none
  | 1 => let r := s.2; Ze r (fun a b c d e f g h i j k l m n o p r => asI r (fun q r => asI r (fun t r => asI r (fun u r => asE r (g12_1 a b c d e f g h i j k l m n o p q t u) none) none) none) none) none
  | _ => none
def ent12 : Ent := ⟨ain12, aout12, g12⟩
def os12 : List (Orc × List (List Bool)) := [(orc12_0, [[true, false, true], [false, true, false], [false, false, true]])]
theorem ok12 (n : Nat) : Zq (evF tab (n + 1)) 12 ent12 :=
  ZC (n := n + 0) (ck12 n) (OK := Zg os12) (body := kc12) (show Zy (Zg os12) (evF tab (n + 0)) kc12 from ⟨trivial, ⟨⟨trivial, ⟨⟨trivial, ⟨trivial, trivial⟩⟩, trivial⟩⟩, ⟨trivial, ⟨⟨trivial, ⟨trivial, (Z2 (os := os12) (i := 0) (o := orc12_0) rfl (snd12_0 n))⟩⟩, ⟨trivial, ⟨trivial, trivial⟩⟩⟩⟩⟩⟩) t12 (by kernel_rfl)
    (Zs (Q := fun i sh => ∀ ls, Zah sh ls (fun args h => fnK (Zz es12) (Zg os12) sf12 kc12 args h (ZE aout12 0) none) none = g12 (i, ls)) (l := ain12) ⟨fun ls => by kernel_rfl, ⟨fun ls => by kernel_rfl, trivial⟩⟩)
def es20 : List (FuncId × Ent × List (List Bool)) := []
theorem ck20 (n : Nat) : Zx (Zz es20) (evF tab (n + 0)) :=
  Zu
def kc20 : KC := (.seq (.reg r20_0) (.seq (.seq (.reg r20_1) (.cond (.t 4) (.seq (.reg r20_2) (.seq (.kill [0, 4]) .ret)) .skip)) (.seq (.reg r20_3) (.seq (.kill [0, 4]) .ret))))
def ain20 : List APat := [⟨[(.ptr 0 (.c 0))], [(true, pF0), (false, (.tree 14))]⟩, ⟨[(.ptr 0 (.c 0))], [(true, pF1)]⟩]
def aout20 : List RPat := [⟨pI, [(true, pF0), (false, (.tree 14))], []⟩, ⟨pI, [(true, pF1)], []⟩]
def g20_0 (b : Nat) (c d e f g h i j k l m n o p q t u v a : Int) (w : List ME) : Option (Nat × List Leaf) :=
  some (0, .i a :: .n b :: I16 c d e f g h i j k l m n o p q t [.i u, .i v, .i a, .t (w)])
def g20_1 (b c d e f g h i j k l m n o p q t u a : Int) : Option (Nat × List Leaf) :=
  some (1, I16 a b c d e f g h i j k l m n o p (I4 q t u a []))
def g20 (s : Nat × List Leaf) : Option (Nat × List Leaf) := match s.1 with
  | 0 => let r := s.2; asN r (fun a r => Ze r (fun b c d e f g h i j k l m n o p q r => asI r (fun t r => asI r (fun u r => asI r (fun v r => asT r (fun w r => asE r (g20_0 a b c d e f g h i j k l m n o p q t u v w) none) none) none) none) none) none) none
  | 1 => let r := s.2; Ze r (fun a b c d e f g h i j k l m n o p r => asI r (fun q r => asI r (fun t r => asI r (fun u r => asE r (g20_1 a b c d e f g h i j k l m n o p q t u) none) none) none) none) none
  | _ => none
def ent20 : Ent := ⟨ain20, aout20, g20⟩
def os20 : List (Orc × List (List Bool)) := []
theorem ok20 (n : Nat) : Zq (evF tab (n + 1)) 20 ent20 :=
  ZC (n := n + 0) (ck20 n) (OK := Zg os20) (body := kc20) (show Zy (Zg os20) (evF tab (n + 0)) kc20 from ⟨trivial, ⟨⟨trivial, ⟨⟨trivial, ⟨trivial, trivial⟩⟩, trivial⟩⟩, ⟨trivial, ⟨trivial, trivial⟩⟩⟩⟩) t20 (by kernel_rfl)
    (Zs (Q := fun i sh => ∀ ls, Zah sh ls (fun args h => fnK (Zz es20) (Zg os20) sf20 kc20 args h (ZE aout20 0) none) none = g20 (i, ls)) (l := ain20) ⟨fun ls => by kernel_rfl, ⟨fun ls => by kernel_rfl, trivial⟩⟩)
def es19 : List (FuncId × Ent × List (List Bool)) := []
theorem ck19 (n : Nat) : Zx (Zz es19) (evF tab (n + 0)) :=
  Zu
def kc19 : KC := (.seq (.reg r19_0) (.seq (.seq (.reg r19_1) (.cond (.t 5) (.seq (.reg r19_2) (.seq (.kill [0, 5]) .ret)) .skip)) (.seq (.reg r19_3) (.seq (.kill [0, 5]) .ret))))
def ain19 : List APat := [⟨[(.ptr 0 (.c 0))], [(true, pF0), (false, (.tree 14))]⟩, ⟨[(.ptr 0 (.c 0))], [(true, pF1)]⟩]
def aout19 : List RPat := [⟨(.tup [(.intsE .i64 9), (.intsE .i64 9)]), [(true, pF0), (false, (.tree 14))], []⟩, ⟨(.tup [(.intsE .i64 9), (.intsE .i64 9)]), [(true, pF1)], []⟩]
def g19_0 (u : Nat) (a b c d e f g h i j k l m n o p q t v : Int) (w : List ME) : Option (Nat × List Leaf) :=
  some (0, I16 a b c d e f g h i j k l m n o p (.i q :: .i t :: .n u :: I16 a b c d e f g h i j k l m n o p [.i q, .i t, .i v, .t (w)]))
def g19_1 (a b c d e f g h i j k l m n o p q t u : Int) : Option (Nat × List Leaf) :=
  some (1, I16 a b c d e f g h i j k l m n o p (I16 q t a b c d e f g h i j k l m n (I4 o p q t [.i u])))
def g19 (s : Nat × List Leaf) : Option (Nat × List Leaf) := match s.1 with
  | 0 => let r := s.2; asN r (fun a r => Ze r (fun b c d e f g h i j k l m n o p q r => asI r (fun t r => asI r (fun u r => asI r (fun v r => asT r (fun w r => asE r (g19_0 a b c d e f g h i j k l m n o p q t u v w) none) none) none) none) none) none) none
  | 1 => let r := s.2; Ze r (fun a b c d e f g h i j k l m n o p r => asI r (fun q r => asI r (fun t r => asI r (fun u r => asE r (g19_1 a b c d e f g h i j k l m n o p q t u) none) none) none) none) none
  | _ => none
def ent19 : Ent := ⟨ain19, aout19, g19⟩
def os19 : List (Orc × List (List Bool)) := []
theorem ok19 (n : Nat) : Zq (evF tab (n + 1)) 19 ent19 :=
  ZC (n := n + 0) (ck19 n) (OK := Zg os19) (body := kc19) (show Zy (Zg os19) (evF tab (n + 0)) kc19 from ⟨trivial, ⟨⟨trivial, ⟨⟨trivial, ⟨trivial, trivial⟩⟩, trivial⟩⟩, ⟨trivial, ⟨trivial, trivial⟩⟩⟩⟩) t19 (by kernel_rfl)
    (Zs (Q := fun i sh => ∀ ls, Zah sh ls (fun args h => fnK (Zz es19) (Zg os19) sf19 kc19 args h (ZE aout19 0) none) none = g19 (i, ls)) (l := ain19) ⟨fun ls => by kernel_rfl, ⟨fun ls => by kernel_rfl, trivial⟩⟩)
def es14 : List (FuncId × Ent × List (List Bool)) := [(26, ent26, [[true]]), (16, ent16, [[true, true, false], [false, false, true]]), (18, ent18, [[true, false], [false, true]]), (17, ent17, [[true]]), (27, ent27, [[true, false, false, false], [false, true, false, false], [false, false, true, false], [false, false, false, true]])]
theorem ck14 (n : Nat) : Zx (Zz es14) (evF tab (n + 4)) :=
  Zf (ok26 (n + 1)) (Zf (ok16 (n + 3)) (Zf (ok18 (n + 1)) (Zf (ok17 (n + 3)) (Zf (ok27 (n + 0)) (Zu)))))
def kc14_0 : KC := (.seq (.seq (.reg r14_9) (.seq (.cond (.t 27) .skip (.seq (.kill [4, 8, 9, 10, 12, 16, 25, 26, 27]) (.exit 2))) (.seq (.block 3 (.seq (.reg r14_10) (.reg r14_11))) (.reg r14_12)))) (.kill [4, 8, 9, 10, 12, 16, 27]))
def in14_0 : List SPat := [⟨[(0, (.ptr 0 (.c 0))), (1, (.ro (.ints .i64) .h 2)), (4, .unk), (5, .nils), (7, (.ptr 2 (.c 0))), (8, .unk), (9, .unk), (10, .unk), (12, .unk), (13, (.ro (.ints .i64) .h 2)), (14, pI), (15, pI), (16, .unk), (25, pI), (26, pI), (27, .unk)], [(true, pF0), (false, (.tree 14)), (true, (.intsE .i64 2))], [], 2⟩, ⟨[(0, (.ptr 0 (.c 0))), (1, (.ro (.ints .i64) .h 2)), (4, .unk), (5, .nils), (7, (.ptr 1 (.c 0))), (8, .unk), (9, .unk), (10, .unk), (12, .unk), (13, (.ro (.ints .i64) .h 2)), (14, pI), (15, pI), (16, .unk), (25, pI), (26, pI), (27, .unk)], [(true, pF1), (true, (.intsE .i64 2))], [], 1⟩, ⟨[(0, (.ptr 0 (.c 0))), (1, (.ro (.ints .i64) .h 2)), (4, .unk), (5, (.slice 2 (.c 0) .h 2)), (7, (.ptr 3 (.c 0))), (8, .unk), (9, .unk), (10, .unk), (12, .unk), (13, (.ro (.ints .i64) .h 2)), (14, pI), (15, pI), (16, .unk), (25, pI), (26, pI), (27, .unk)], [(true, pF0), (false, (.tree 14)), (true, (.ints .i64)), (true, (.intsE .i64 2))], [], 2⟩, ⟨[(0, (.ptr 0 (.c 0))), (1, (.ro (.ints .i64) .h 2)), (4, .unk), (5, (.slice 1 (.c 0) .h 2)), (7, (.ptr 2 (.c 0))), (8, .unk), (9, .unk), (10, .unk), (12, .unk), (13, (.ro (.ints .i64) .h 2)), (14, pI), (15, pI), (16, .unk), (25, pI), (26, pI), (27, .unk)], [(true, pF1), (true, (.ints .i64)), (true, (.intsE .i64 2))], [], 1⟩]
def out14_0 : List (SX × SPat) := [((.exit 2), ⟨[(0, (.ptr 0 (.c 0))), (1, (.ro (.ints .i64) .h 2)), (4, .unk), (5, .nils), (7, (.ptr 2 (.c 0))), (8, .unk), (9, .unk), (10, .unk), (12, .unk), (13, (.ro (.ints .i64) .h 2)), (14, pI), (15, pI), (16, .unk), (25, .unk), (26, .unk), (27, .unk)], [(true, pF0), (false, (.tree 14)), (true, (.intsE .i64 2))], [], 2⟩), ((.exit 2), ⟨[(0, (.ptr 0 (.c 0))), (1, (.ro (.ints .i64) .h 2)), (4, .unk), (5, .nils), (7, (.ptr 1 (.c 0))), (8, .unk), (9, .unk), (10, .unk), (12, .unk), (13, (.ro (.ints .i64) .h 2)), (14, pI), (15, pI), (16, .unk), (25, .unk), (26, .unk), (27, .unk)], [(true, pF1), (true, (.intsE .i64 2))], [], 1⟩), ((.exit 2), ⟨[(0, (.ptr 0 (.c 0))), (1, (.ro (.ints .i64) .h 2)), (4, .unk), (5, (.slice 2 (.c 0) .h 2)), (7, (.ptr 3 (.c 0))), (8, .unk), (9, .unk), (10, .unk), (12, .unk), (13, (.ro (.ints .i64) .h 2)), (14, pI), (15, pI), (16, .unk), (25, .unk), (26, .unk), (27, .unk)], [(true, pF0), (false, (.tree 14)), (true, (.ints .i64)), (true, (.intsE .i64 2))], [], 2⟩), ((.exit 2), ⟨[(0, (.ptr 0 (.c 0))), (1, (.ro (.ints .i64) .h 2)), (4, .unk), (5, (.slice 1 (.c 0) .h 2)), (7, (.ptr 2 (.c 0))), (8, .unk), (9, .unk), (10, .unk), (12, .unk), (13, (.ro (.ints .i64) .h 2)), (14, pI), (15, pI), (16, .unk), (25, .unk), (26, .unk), (27, .unk)], [(true, pF1), (true, (.ints .i64)), (true, (.intsE .i64 2))], [], 1⟩)]
def f14_0_0 (d : Nat) (e : List Int) (f : Nat) (g : List Int) (h i j a : Int) (b : Nat) (k l m n o p q t u v w x y z a0 a1 a2 a3 a4 : Int) (c : List ME) (a5 a6 : Int) : Option (Nat × List Leaf) :=
  cond (decide (a < j)) (if 0 ≤ a ∧ a < (↑b : Int) then if Int.toNat a * (14 : Nat) % (14 : Nat) = (0 : Nat) then optK (c[Int.toNat a * (14 : Nat) / (14 : Nat)]?) (fun a7 => trK (trE ent27 14 (a7) ([EV.ints IntKind.i64 [a5, a6]])) (fun a8 a9 b0 => some (0, .n d :: .l e :: .n f :: .l g :: I4 h i j (IntKind.wrap IntKind.i64 (a + (1 : Int))) (.n b :: I16 k l m n o p q t u v w x y z a0 a1 [.i a2, .i a3, .i a4, .t (List.set c (Int.toNat a * (14 : Nat) / (14 : Nat)) b0), .i a8, .i a9]))) none) (none) else none else none) (some (4, .n d :: .l e :: .n f :: .l g :: .i h :: .i i :: .n b :: I16 k l m n o p q t u v w x y z a0 a1 [.i a2, .i a3, .i a4, .t (c), .i a5, .i a6]))
def f14_0_1 (a : Nat) (b : List Int) (c : Nat) (d : List Int) (e f g h i j k l m n o p q t u v w x y z a0 a1 a2 a3 a4 : Int) : Option (Nat × List Leaf) :=
  cond (decide (h < g)) (none) (some (5, .n a :: .l b :: .n c :: .l d :: I16 e f i j k l m n o p q t u v w x (I4 y z a0 a1 [.i a2, .i a3, .i a4])))
def f14_0_2 (d : Nat) (e : List Int) (f : Nat) (g : Nat) (h : List Int) (i j k a : Int) (b : Nat) (l m n o p q t u v w x y z a0 a1 a2 a3 a4 a5 : Int) (c : List ME) (a6 : List Int) (a7 a8 : Int) : Option (Nat × List Leaf) :=
  cond (decide (a < k)) (if 0 ≤ a ∧ a < (↑b : Int) then if Int.toNat a * (14 : Nat) % (14 : Nat) = (0 : Nat) then optK (c[Int.toNat a * (14 : Nat) / (14 : Nat)]?) (fun a9 => trK (trE ent27 14 (a9) ([EV.ints IntKind.i64 [a7, a8]])) (fun b0 b1 b2 => some (2, .n d :: .l e :: .n f :: .n g :: .l h :: I4 i j k (IntKind.wrap IntKind.i64 (a + (1 : Int))) (.n b :: I16 l m n o p q t u v w x y z a0 a1 a2 [.i a3, .i a4, .i a5, .t (List.set c (Int.toNat a * (14 : Nat) / (14 : Nat)) b2), .l a6, .i b0, .i b1]))) none) (none) else none else none) (some (6, .n d :: .l e :: .n f :: .n g :: .l h :: .i i :: .i j :: .n b :: I16 l m n o p q t u v w x y z a0 a1 a2 [.i a3, .i a4, .i a5, .t (c), .l a6, .i a7, .i a8]))
def f14_0_3 (a : Nat) (b : List Int) (c : Nat) (d : Nat) (e : List Int) (f g h i j k l m n o p q t u v w x y z a0 a1 a2 a3 : Int) (a4 : List Int) (a5 a6 : Int) : Option (Nat × List Leaf) :=
  cond (decide (i < h)) (none) (some (7, .n a :: .l b :: .n c :: .n d :: .l e :: I16 f g j k l m n o p q t u v w x y (I4 z a0 a1 a2 [.i a3, .l a4, .i a5, .i a6])))
def f14_0 (s : Nat × List Leaf) : Option (Nat × List Leaf) := match s.1 with
  | 0 => let r := s.2; asN r (fun a r => asL r (fun b r => asN r (fun c r => asL r (fun d r => asI4 r (fun e f g h r => asN r (fun a4 r => Ze r (fun i j k l m n o p q t u v w x y z r => asI r (fun a0 r => asI r (fun a1 r => asI r (fun a2 r => asT r (fun a3 r => asI r (fun a5 r => asI r (fun a6 r => asE r (f14_0_0 a b c d e f g h a4 i j k l m n o p q t u v w x y z a0 a1 a2 a3 a5 a6) none) none) none) none) none) none) none) none) none) none) none) none) none) none
  | 1 => let r := s.2; asN r (fun a r => asL r (fun b r => asN r (fun c r => asL r (fun d r => Ze r (fun e f g h i j k l m n o p q t u v r => asI8 r (fun w x y z a0 a1 a2 a8 r => asI r (fun a9 r => asE r (f14_0_1 a b c d e f g h i j k l m n o p q t u v w x y z a0 a1 a2 a8 a9) none) none) none) none) none) none) none) none
  | 2 => let r := s.2; asN r (fun a r => asL r (fun b r => asN r (fun a7 r => asN r (fun c r => asL r (fun d r => asI4 r (fun e f g h r => asN r (fun a4 r => Ze r (fun i j k l m n o p q t u v w x y z r => asI r (fun a0 r => asI r (fun a1 r => asI r (fun a2 r => asT r (fun a3 r => asL r (fun b0 r => asI r (fun b1 r => asI r (fun b2 r => asE r (f14_0_2 a b a7 c d e f g h a4 i j k l m n o p q t u v w x y z a0 a1 a2 a3 b0 b1 b2) none) none) none) none) none) none) none) none) none) none) none) none) none) none) none) none
  | 3 => let r := s.2; asN r (fun a r => asL r (fun b r => asN r (fun a7 r => asN r (fun c r => asL r (fun d r => Ze r (fun e f g h i j k l m n o p q t u v r => asI4 r (fun w x y z r => asI r (fun a0 r => asI r (fun a1 r => asI r (fun a2 r => asL r (fun a3 r => asI r (fun a5 r => asI r (fun a6 r => asE r (f14_0_3 a b a7 c d e f g h i j k l m n o p q t u v w x y z a0 a1 a2 a3 a5 a6) none) none) none) none) none) none) none) none) none) none) none) none) none) none
  | _ => none
def Zgf (s : Nat × List Leaf) : Option (Nat × List Leaf) := ZbN 4 f14_0 s
def orc14_0 : Orc := ⟨in14_0, out14_0, Zgf⟩
def os14_0 : List (Orc × List (List Bool)) := []
theorem snd14_0 (n : Nat) : ZU (evF tab (n + 4)) (.loop l14_13) orc14_0 :=
  ZX (b := kc14_0) (OK := Zg os14_0) (ck14 n) (show Zy (Zg os14_0) (evF tab (n + 4)) kc14_0 from ⟨⟨trivial, ⟨⟨trivial, ⟨trivial, trivial⟩⟩, ⟨⟨trivial, trivial⟩, trivial⟩⟩⟩, trivial⟩) (ins := in14_0) (outs := out14_0) (f := f14_0) (by kernel_rfl)
    (Zs (Q := fun i sh => ∀ ls, ZaJ sh ls (fun st => evK (Zz es14) (Zg os14_0) kc14_0 st (ZV (in14_0.map (SX.normal, ·) ++ out14_0) 0) none) none = f14_0 (i, ls)) (l := in14_0) ⟨fun ls => by kernel_rfl, ⟨fun ls => by kernel_rfl, ⟨fun ls => by kernel_rfl, ⟨fun ls => by kernel_rfl, trivial⟩⟩⟩⟩)
def kc14_1 : KC := (.seq (.seq (.reg r14_5) (.seq (.cond (.t 16) .skip (.seq (.kill [4, 7, 8, 9, 10, 12, 13, 14, 15, 16, 25, 26, 27]) (.exit 0))) (.seq (.block 1 (.seq (.reg r14_6) (.seq (.reg r14_7) (.seq (.seq (.reg r14_8) (.block 2 (.seq (.kill [4, 8, 9, 10, 12, 16, 27]) (.orc 0 (.loop l14_13))))) (.reg r14_14))))) (.reg r14_15)))) (.seq (.kill [4, 7, 8, 9, 10, 12, 16, 25, 26, 27]) .tidy))
def in14_1 : List SPat := [⟨[(0, (.ptr 0 (.c 0))), (1, (.ro (.ints .i64) .h 2)), (4, .unk), (5, .nils), (7, .unk), (8, .unk), (9, .unk), (10, .unk), (12, .unk), (13, (.ro (.ints .i64) .h 2)), (14, pI), (15, pI), (16, .unk), (25, .unk), (26, .unk), (27, .unk)], [(true, pF0), (false, (.tree 14))], [], 2⟩, ⟨[(0, (.ptr 0 (.c 0))), (1, (.ro (.ints .i64) .h 2)), (4, .unk), (5, .nils), (7, .unk), (8, .unk), (9, .unk), (10, .unk), (12, .unk), (13, (.ro (.ints .i64) .h 2)), (14, pI), (15, pI), (16, .unk), (25, .unk), (26, .unk), (27, .unk)], [(true, pF1)], [], 1⟩, ⟨[(0, (.ptr 0 (.c 0))), (1, (.ro (.ints .i64) .h 2)), (4, .unk), (5, (.slice 2 (.c 0) .h 2)), (7, .unk), (8, .unk), (9, .unk), (10, .unk), (12, .unk), (13, (.ro (.ints .i64) .h 2)), (14, pI), (15, pI), (16, .unk), (25, .unk), (26, .unk), (27, .unk)], [(true, pF0), (false, (.tree 14)), (true, (.ints .i64))], [], 2⟩, ⟨[(0, (.ptr 0 (.c 0))), (1, (.ro (.ints .i64) .h 2)), (4, .unk), (5, (.slice 1 (.c 0) .h 2)), (7, .unk), (8, .unk), (9, .unk), (10, .unk), (12, .unk), (13, (.ro (.ints .i64) .h 2)), (14, pI), (15, pI), (16, .unk), (25, .unk), (26, .unk), (27, .unk)], [(true, pF1), (true, (.ints .i64))], [], 1⟩]
def out14_1 : List (SX × SPat) := [((.exit 0), ⟨[(0, (.ptr 0 (.c 0))), (1, (.ro (.ints .i64) .h 2)), (4, .unk), (5, .nils), (7, .unk), (8, .unk), (9, .unk), (10, .unk), (12, .unk), (13, .unk), (14, .unk), (15, .unk), (16, .unk), (25, .unk), (26, .unk), (27, .unk)], [(true, pF0), (false, (.tree 14))], [], 2⟩), ((.exit 0), ⟨[(0, (.ptr 0 (.c 0))), (1, (.ro (.ints .i64) .h 2)), (4, .unk), (5, .nils), (7, .unk), (8, .unk), (9, .unk), (10, .unk), (12, .unk), (13, .unk), (14, .unk), (15, .unk), (16, .unk), (25, .unk), (26, .unk), (27, .unk)], [(true, pF1)], [], 1⟩), ((.exit 0), ⟨[(0, (.ptr 0 (.c 0))), (1, (.ro (.ints .i64) .h 2)), (4, .unk), (5, (.slice 2 (.c 0) .h 2)), (7, .unk), (8, .unk), (9, .unk), (10, .unk), (12, .unk), (13, .unk), (14, .unk), (15, .unk), (16, .unk), (25, .unk), (26, .unk), (27, .unk)], [(true, pF0), (false, (.tree 14)), (true, (.ints .i64))], [], 2⟩), ((.exit 0), ⟨[(0, (.ptr 0 (.c 0))), (1, (.ro (.ints .i64) .h 2)), (4, .unk), (5, (.slice 1 (.c 0) .h 2)), (7, .unk), (8, .unk), (9, .unk), (10, .unk), (12, .unk), (13, .unk), (14, .unk), (15, .unk), (16, .unk), (25, .unk), (26, .unk), (27, .unk)], [(true, pF1), (true, (.ints .i64))], [], 1⟩)]
def f14_1_0 (d : Nat) (e : List Int) (f : Nat) (b : List Int) (g a : Int) (c : Nat) (h i j k l m n o p q t u v w x y z a0 a1 : Int) (a2 : List ME) : Option (Nat × List Leaf) :=
  cond (decide (a < g)) (if 0 ≤ a ∧ a < (↑f : Int) then if Int.toNat a * (2 : Nat) + (2 : Nat) ≤ List.length b then altK (g26 (0, [.i (List.getD b (Int.toNat a * (2 : Nat)) 0), .i (List.getD b (Int.toNat a * (2 : Nat) + (1 : Nat)) 0)])) [fun r => asI r (fun a3 r => asI r (fun a4 r => asE r (altK (Zgf (0, .n d :: .l e :: .n f :: .l b :: I4 g a ((↑c : Int)) (0) (.n c :: I16 h i j k l m n o p q t u v w x y [.i z, .i a0, .i a1, .t (a2), .i a3, .i a4]))) [fun r => asN r (fun a5 r => asL r (fun a6 r => asN r (fun a7 r => asL r (fun a8 r => asI r (fun a9 r => asI r (fun b0 r => asN r (fun b1 r => Ze r (fun b2 b3 b4 b5 b6 b7 b8 b9 c0 c1 c2 c3 c4 c5 c6 c7 r => asI r (fun c8 r => asI r (fun c9 r => asI r (fun d0 r => asT r (fun d1 r => asI r (fun d2 r => asI r (fun d3 r => asE r (some (2, .n a5 :: .l a6 :: .n ((1 : Nat)) :: .n a7 :: .l a8 :: .i a9 :: .i (IntKind.wrap IntKind.i64 (b0 + (1 : Int))) :: .n b1 :: I16 b2 b3 b4 b5 b6 b7 b8 b9 c0 c1 c2 c3 c4 c5 c6 c7 [.i c8, .i c9, .i d0, .t (d1), .l ([d2, d3])])) none) none) none) none) none) none) none) none) none) none) none) none) none) none) none, fun r => none, fun r => none, fun r => none] none) none) none) none] none else none else none) (some (4, .n d :: .l e :: .n c :: I16 h i j k l m n o p q t u v w x y [.i z, .i a0, .i a1, .t (a2)]))
def f14_1_1 (c : Nat) (d : List Int) (e : Nat) (b : List Int) (f a g h i j k l m n o p q t u v w x y z a0 : Int) : Option (Nat × List Leaf) :=
  cond (decide (a < f)) (if 0 ≤ a ∧ a < (↑e : Int) then if Int.toNat a * (2 : Nat) + (2 : Nat) ≤ List.length b then altK (g26 (0, [.i (List.getD b (Int.toNat a * (2 : Nat)) 0), .i (List.getD b (Int.toNat a * (2 : Nat) + (1 : Nat)) 0)])) [fun r => asI r (fun a1 r => asI r (fun a2 r => asE r (altK (Zgf (1, .n c :: .l d :: .n e :: .l b :: I16 f a (0) (0) g h i j k l m n o p q t (I8 u v w x y z a0 a1 [.i a2]))) [fun r => none, fun r => asN r (fun a3 r => asL r (fun a4 r => asN r (fun a5 r => asL r (fun a6 r => Ze r (fun a7 a8 a9 b0 b1 b2 b3 b4 b5 b6 b7 b8 b9 c0 c1 c2 r => asI4 r (fun c3 c4 c5 c6 r => asI r (fun c7 r => asI r (fun c8 r => asI r (fun c9 r => asE r (some (3, .n a3 :: .l a4 :: .n ((1 : Nat)) :: .n a5 :: .l a6 :: I16 a7 (IntKind.wrap IntKind.i64 (a8 + (1 : Int))) a9 b0 b1 b2 b3 b4 b5 b6 b7 b8 b9 c0 c1 c2 (I4 c3 c4 c5 c6 [.i c7, .l ([c8, c9])]))) none) none) none) none) none) none) none) none) none) none, fun r => none, fun r => none] none) none) none) none] none else none else none) (some (5, .n c :: .l d :: I16 g h i j k l m n o p q t u v w x [.i y, .i z, .i a0]))
def f14_1_2 (e : Nat) (f : List Int) (g : Nat) (h : Nat) (b : List Int) (i a : Int) (c : Nat) (j k l m n o p q t u v w x y z a0 a1 a2 a3 : Int) (a4 : List ME) (a5 : List Int) : Option (Nat × List Leaf) :=
  cond (decide (a < i)) (if 0 ≤ a ∧ a < (↑h : Int) then if Int.toNat a * (2 : Nat) + (2 : Nat) ≤ List.length b then altK (g26 (0, [.i (List.getD b (Int.toNat a * (2 : Nat)) 0), .i (List.getD b (Int.toNat a * (2 : Nat) + (1 : Nat)) 0)])) [fun r => asI r (fun a7 r => asI r (fun a8 r => asE r (altK (Zgf (2, .n e :: .l f :: .n g :: .n h :: .l b :: I4 i a ((↑c : Int)) (0) (.n c :: I16 j k l m n o p q t u v w x y z a0 [.i a1, .i a2, .i a3, .t (a4), .l a5, .i a7, .i a8]))) [fun r => none, fun r => none, fun r => asN r (fun a9 r => asL r (fun b0 r => asN r (fun d r => asN r (fun b1 r => asL r (fun b2 r => asI r (fun b3 r => asI r (fun b4 r => asN r (fun b5 r => Ze r (fun b6 b7 b8 b9 c0 c1 c2 c3 c4 c5 c6 c7 c8 c9 d0 d1 r => asI r (fun d2 r => asI r (fun d3 r => asI r (fun d4 r => asT r (fun d5 r => asL r (fun a6 r => asI r (fun d6 r => asI r (fun d7 r => asE r (if (d + (1 : Nat)) * (16 : Nat) ≤ (70368744177664 : Nat) then if List.length a6 = d * (2 : Nat) then some (2, .n a9 :: .l b0 :: .n (d + (1 : Nat)) :: .n b1 :: .l b2 :: .i b3 :: .i (IntKind.wrap IntKind.i64 (b4 + (1 : Int))) :: .n b5 :: I16 b6 b7 b8 b9 c0 c1 c2 c3 c4 c5 c6 c7 c8 c9 d0 d1 [.i d2, .i d3, .i d4, .t (d5), .l (a6 ++ [d6, d7])]) else none else none) none) none) none) none) none) none) none) none) none) none) none) none) none) none) none) none) none, fun r => none] none) none) none) none] none else none else none) (some (6, .n e :: .l f :: .n g :: .n c :: I16 j k l m n o p q t u v w x y z a0 [.i a1, .i a2, .i a3, .t (a4), .l a5]))
def f14_1_3 (d : Nat) (e : List Int) (f : Nat) (g : Nat) (b : List Int) (h a i j k l m n o p q t u v w x y z a0 a1 a2 : Int) (a3 : List Int) : Option (Nat × List Leaf) :=
  cond (decide (a < h)) (if 0 ≤ a ∧ a < (↑g : Int) then if Int.toNat a * (2 : Nat) + (2 : Nat) ≤ List.length b then altK (g26 (0, [.i (List.getD b (Int.toNat a * (2 : Nat)) 0), .i (List.getD b (Int.toNat a * (2 : Nat) + (1 : Nat)) 0)])) [fun r => asI r (fun a5 r => asI r (fun a6 r => asE r (altK (Zgf (3, .n d :: .l e :: .n f :: .n g :: .l b :: I16 h a (0) (0) i j k l m n o p q t u v (I4 w x y z [.i a0, .i a1, .i a2, .l a3, .i a5, .i a6]))) [fun r => none, fun r => none, fun r => none, fun r => asN r (fun a7 r => asL r (fun a8 r => asN r (fun c r => asN r (fun a9 r => asL r (fun b0 r => Ze r (fun b1 b2 b3 b4 b5 b6 b7 b8 b9 c0 c1 c2 c3 c4 c5 c6 r => asI4 r (fun c7 c8 c9 d0 r => asI r (fun d1 r => asL r (fun a4 r => asI r (fun d2 r => asI r (fun d3 r => asE r (if (c + (1 : Nat)) * (16 : Nat) ≤ (70368744177664 : Nat) then if List.length a4 = c * (2 : Nat) then some (3, .n a7 :: .l a8 :: .n (c + (1 : Nat)) :: .n a9 :: .l b0 :: I16 b1 (IntKind.wrap IntKind.i64 (b2 + (1 : Int))) b3 b4 b5 b6 b7 b8 b9 c0 c1 c2 c3 c4 c5 c6 (I4 c7 c8 c9 d0 [.i d1, .l (a4 ++ [d2, d3])])) else none else none) none) none) none) none) none) none) none) none) none) none) none) none] none) none) none) none] none else none else none) (some (7, .n d :: .l e :: .n f :: I16 i j k l m n o p q t u v w x y z [.i a0, .i a1, .i a2, .l a3]))
def f14_1 (s : Nat × List Leaf) : Option (Nat × List Leaf) := match s.1 with
  | 0 => let r := s.2; asN r (fun a r => asL r (fun b r => asN r (fun c r => asL r (fun d r => asI r (fun e r => asI r (fun f r => asN r (fun a2 r => Ze r (fun g h i j k l m n o p q t u v w x r => asI r (fun y r => asI r (fun z r => asI r (fun a0 r => asT r (fun a1 r => asE r (f14_1_0 a b c d e f a2 g h i j k l m n o p q t u v w x y z a0 a1) none) none) none) none) none) none) none) none) none) none) none) none) none
  | 1 => let r := s.2; asN r (fun a r => asL r (fun b r => asN r (fun c r => asL r (fun d r => Ze r (fun e f g h i j k l m n o p q t u v r => asI4 r (fun w x y z r => asI r (fun a0 r => asE r (f14_1_1 a b c d e f g h i j k l m n o p q t u v w x y z a0) none) none) none) none) none) none) none) none
  | 2 => let r := s.2; asN r (fun a r => asL r (fun b r => asN r (fun a3 r => asN r (fun c r => asL r (fun d r => asI r (fun e r => asI r (fun f r => asN r (fun a2 r => Ze r (fun g h i j k l m n o p q t u v w x r => asI r (fun y r => asI r (fun z r => asI r (fun a0 r => asT r (fun a1 r => asL r (fun a4 r => asE r (f14_1_2 a b a3 c d e f a2 g h i j k l m n o p q t u v w x y z a0 a1 a4) none) none) none) none) none) none) none) none) none) none) none) none) none) none) none
  | 3 => let r := s.2; asN r (fun a r => asL r (fun b r => asN r (fun a3 r => asN r (fun c r => asL r (fun d r => Ze r (fun e f g h i j k l m n o p q t u v r => asI4 r (fun w x y z r => asI r (fun a0 r => asL r (fun a1 r => asE r (f14_1_3 a b a3 c d e f g h i j k l m n o p q t u v w x y z a0 a1) none) none) none) none) none) none) none) none) none) none
  | _ => none
def Zk3 (s : Nat × List Leaf) : Option (Nat × List Leaf) := ZbN 4 f14_1 s
def orc14_1 : Orc := ⟨in14_1, out14_1, Zk3⟩
def os14_1 : List (Orc × List (List Bool)) := [(orc14_0, [[true, false, false, false], [false, true, false, false], [false, false, true, false], [false, false, false, true]])]
theorem snd14_1 (n : Nat) : ZU (evF tab (n + 4)) (.loop l14_16) orc14_1 :=
  ZX (b := kc14_1) (OK := Zg os14_1) (ck14 n) (show Zy (Zg os14_1) (evF tab (n + 4)) kc14_1 from ⟨⟨trivial, ⟨⟨trivial, ⟨trivial, trivial⟩⟩, ⟨⟨trivial, ⟨trivial, ⟨⟨trivial, ⟨trivial, (Z2 (os := os14_1) (i := 0) (o := orc14_0) rfl (snd14_0 n))⟩⟩, trivial⟩⟩⟩, trivial⟩⟩⟩, ⟨trivial, trivial⟩⟩) (ins := in14_1) (outs := out14_1) (f := f14_1) (by kernel_rfl)
    (Zs (Q := fun i sh => ∀ ls, ZaJ sh ls (fun st => evK (Zz es14) (Zg os14_1) kc14_1 st (ZV (in14_1.map (SX.normal, ·) ++ out14_1) 0) none) none = f14_1 (i, ls)) (l := in14_1) ⟨fun ls => by kernel_rfl, ⟨fun ls => by kernel_rfl, ⟨fun ls => by kernel_rfl, ⟨fun ls => by kernel_rfl, trivial⟩⟩⟩⟩)
def kc14 : KC := (.seq (.reg r14_0) (.seq (.seq (.reg r14_1) (.cond (.t 12) (.seq (.reg r14_2) (.seq (.kill [0, 1, 5, 7, 8, 9, 10, 12, 13, 14, 15, 16, 25, 26, 27]) .ret)) .skip)) (.seq (.reg r14_3) (.seq (.seq (.reg r14_4) (.block 0 (.seq (.kill [4, 7, 8, 9, 10, 12, 16, 25, 26, 27]) (.orc 1 (.loop l14_16))))) (.seq (.reg r14_17) (.seq (.reg r14_18) (.seq (.reg r14_19) (.seq (.reg r14_20) (.seq (.kill [0, 1, 5, 7, 8, 9, 10, 12, 13, 14, 15, 16, 25, 26, 27]) .ret)))))))))
def ain14 : List APat := [⟨[(.ptr 0 (.c 0)), (.ro (.ints .i64) .h 2)], [(true, pF0), (false, (.tree 14))]⟩, ⟨[(.ptr 0 (.c 0)), (.ro (.ints .i64) .h 2)], [(true, pF1)]⟩]
def aout14 : List RPat := [⟨.nils, [(true, pF0), (false, (.tree 14))], []⟩, ⟨.nils, [(true, pF1)], []⟩, ⟨(.slice 2 (.c 0) .h 2), [(true, pF0), (false, (.tree 14)), (true, (.ints .i64))], []⟩, ⟨(.slice 1 (.c 0) .h 2), [(true, pF1), (true, (.ints .i64))], []⟩]
def g14_0 (a : Nat) (c : List Int) (a1 : Nat) (a2 a3 a4 a5 a6 a7 a8 a9 b0 b1 b2 b3 b4 b5 b6 b7 b8 b9 c0 : Int) (c1 : List ME) : Option (Nat × List Leaf) :=
  altK (Zk3 (0, .n a :: .l c :: .n a :: .l c :: .i ((↑a : Int)) :: .i (0) :: .n a1 :: I16 a2 a3 a4 a5 a6 a7 a8 a9 b0 b1 b2 b3 b4 b5 b6 b7 [.i b8, .i b9, .i c0, .t (c1)])) [fun r => asN r (fun c2 r => asL r (fun p9 r => asN r (fun c3 r => Ze r (fun c4 c5 c6 c7 c8 c9 d0 d1 d2 d3 d4 d5 d6 d7 d8 d9 r => asI r (fun e0 r => asI r (fun e1 r => asI r (fun e2 r => asT r (fun e3 r => asE r (altK (g16 (1, [])) [fun r => none, fun r => none, fun r => asE r (altK (g18 (1, [])) [fun r => none, fun r => asI8 r (fun e4 e5 e6 e7 e8 e9 f0 f1 r => asI r (fun f2 r => asE r (altK (g17 (0, I16 c4 c5 c6 c7 c8 c9 d0 d1 d2 e4 e5 e6 e7 e8 e9 f0 [.i f1, .i f2])) [fun r => asI8 r (fun f3 f4 f5 f6 f7 f8 f9 g0 r => asI r (fun g1 r => asE r (altK (g18 (1, [])) [fun r => none, fun r => asI8 r (fun g2 g3 g4 g5 g6 g7 g8 g9 r => asI r (fun h0 r => asE r (altK (g17 (0, I16 d3 d4 d5 d6 d7 d8 d9 e0 e1 g2 g3 g4 g5 g6 g7 g8 [.i g9, .i h0])) [fun r => asI8 r (fun h1 h2 h3 h4 h5 h6 h7 h8 r => asI r (fun h9 r => asE r (some (0, .n c3 :: I16 f3 f4 f5 f6 f7 f8 f9 g0 g1 h1 h2 h3 h4 h5 h6 h7 [.i h8, .i h9, .i (IntKind.wrap IntKind.i64 (e2 + (↑c2 : Int))), .t (e3)])) none) none) none] none) none) none) none] none) none) none) none] none) none) none) none] none) none] none) none) none) none) none) none) none) none) none) none, fun r => none, fun r => asN r (fun d r => asL r (fun q0 r => asN r (fun b r => asN r (fun e r => Ze r (fun f g h i j k l m n o p q t u v w r => asI r (fun x r => asI r (fun y r => asI r (fun z r => asT r (fun a0 r => asL r (fun i0 r => asE r (altK (g16 (0, [.n b, .l i0])) [fun r => asL r (fun i1 r => asE r (altK (g18 (1, [])) [fun r => none, fun r => asI8 r (fun i2 i3 i4 i5 i6 i7 i8 i9 r => asI r (fun j0 r => asE r (altK (g17 (0, I16 f g h i j k l m n i2 i3 i4 i5 i6 i7 i8 [.i i9, .i j0])) [fun r => asI8 r (fun j1 j2 j3 j4 j5 j6 j7 j8 r => asI r (fun j9 r => asE r (altK (g18 (1, [])) [fun r => none, fun r => asI8 r (fun k0 k1 k2 k3 k4 k5 k6 k7 r => asI r (fun k8 r => asE r (altK (g17 (0, I16 o p q t u v w x y k0 k1 k2 k3 k4 k5 k6 [.i k7, .i k8])) [fun r => asI8 r (fun k9 l0 l1 l2 l3 l4 l5 l6 r => asI r (fun l7 r => asE r (some (2, .n b :: .n e :: I16 j1 j2 j3 j4 j5 j6 j7 j8 j9 k9 l0 l1 l2 l3 l4 l5 [.i l6, .i l7, .i (IntKind.wrap IntKind.i64 (z + (↑d : Int))), .t (a0), .l i1])) none) none) none] none) none) none) none] none) none) none) none] none) none) none) none] none) none) none, fun r => asN r (fun l8 r => asN r (fun l9 r => asL r (fun m0 r => asL r (fun m1 r => asL r (fun m2 r => asE r (altK (g18 (0, [.n l8, .l m1])) [fun r => asI8 r (fun m3 m4 m5 m6 m7 m8 m9 n0 r => asI r (fun n1 r => asL r (fun q1 r => asE r (altK (g17 (0, I16 f g h i j k l m n m3 m4 m5 m6 m7 m8 m9 [.i n0, .i n1])) [fun r => asI8 r (fun n2 n3 n4 n5 n6 n7 n8 n9 r => asI r (fun o0 r => asE r (altK (g18 (0, [.n l9, .l m2])) [fun r => asI8 r (fun o1 o2 o3 o4 o5 o6 o7 o8 r => asI r (fun o9 r => asL r (fun q2 r => asE r (altK (g17 (0, I16 o p q t u v w x y o1 o2 o3 o4 o5 o6 o7 [.i o8, .i o9])) [fun r => asI8 r (fun p0 p1 p2 p3 p4 p5 p6 p7 r => asI r (fun p8 r => asE r (some (2, .n b :: .n e :: I16 n2 n3 n4 n5 n6 n7 n8 n9 o0 p0 p1 p2 p3 p4 p5 p6 [.i p7, .i p8, .i (IntKind.wrap IntKind.i64 (z + (↑d : Int))), .t (a0), .l m0])) none) none) none] none) none) none) none) none, fun r => none] none) none) none) none] none) none) none) none) none, fun r => none] none) none) none) none) none) none) none, fun r => none] none) none) none) none) none) none) none) none) none) none) none) none, fun r => none] none
def g14_1 (a : Nat) (c : List Int) (z a0 a1 a2 a3 a4 a5 a6 a7 a8 a9 b0 b1 b2 b3 b4 b5 b6 b7 : Int) : Option (Nat × List Leaf) :=
  altK (Zk3 (1, .n a :: .l c :: .n a :: .l c :: I16 ((↑a : Int)) (0) z a0 a1 a2 a3 a4 a5 a6 a7 a8 a9 b0 b1 b2 (I4 b3 b4 b5 b6 [.i b7]))) [fun r => none, fun r => asN r (fun b8 r => asL r (fun p3 r => Ze r (fun b9 c0 c1 c2 c3 c4 c5 c6 c7 c8 c9 d0 d1 d2 d3 d4 r => asI r (fun d5 r => asI r (fun d6 r => asI r (fun d7 r => asE r (altK (g16 (1, [])) [fun r => none, fun r => none, fun r => asE r (altK (g18 (1, [])) [fun r => none, fun r => asI8 r (fun d8 d9 e0 e1 e2 e3 e4 e5 r => asI r (fun e6 r => asE r (altK (g17 (0, I16 b9 c0 c1 c2 c3 c4 c5 c6 c7 d8 d9 e0 e1 e2 e3 e4 [.i e5, .i e6])) [fun r => asI8 r (fun e7 e8 e9 f0 f1 f2 f3 f4 r => asI r (fun f5 r => asE r (altK (g18 (1, [])) [fun r => none, fun r => asI8 r (fun f6 f7 f8 f9 g0 g1 g2 g3 r => asI r (fun g4 r => asE r (altK (g17 (0, I16 c8 c9 d0 d1 d2 d3 d4 d5 d6 f6 f7 f8 f9 g0 g1 g2 [.i g3, .i g4])) [fun r => asI8 r (fun g5 g6 g7 g8 g9 h0 h1 h2 r => asI r (fun h3 r => asE r (some (1, I16 e7 e8 e9 f0 f1 f2 f3 f4 f5 g5 g6 g7 g8 g9 h0 h1 [.i h2, .i h3, .i (IntKind.wrap IntKind.i64 (d7 + (↑b8 : Int)))])) none) none) none] none) none) none) none] none) none) none) none] none) none) none) none] none) none] none) none) none) none) none) none) none) none, fun r => none, fun r => asN r (fun d r => asL r (fun p4 r => asN r (fun b r => Ze r (fun e f g h i j k l m n o p q t u v r => asI r (fun w r => asI r (fun x r => asI r (fun y r => asL r (fun h4 r => asE r (altK (g16 (0, [.n b, .l h4])) [fun r => asL r (fun h5 r => asE r (altK (g18 (1, [])) [fun r => none, fun r => asI8 r (fun h6 h7 h8 h9 i0 i1 i2 i3 r => asI r (fun i4 r => asE r (altK (g17 (0, I16 e f g h i j k l m h6 h7 h8 h9 i0 i1 i2 [.i i3, .i i4])) [fun r => asI8 r (fun i5 i6 i7 i8 i9 j0 j1 j2 r => asI r (fun j3 r => asE r (altK (g18 (1, [])) [fun r => none, fun r => asI8 r (fun j4 j5 j6 j7 j8 j9 k0 k1 r => asI r (fun k2 r => asE r (altK (g17 (0, I16 n o p q t u v w x j4 j5 j6 j7 j8 j9 k0 [.i k1, .i k2])) [fun r => asI8 r (fun k3 k4 k5 k6 k7 k8 k9 l0 r => asI r (fun l1 r => asE r (some (3, .n b :: I16 i5 i6 i7 i8 i9 j0 j1 j2 j3 k3 k4 k5 k6 k7 k8 k9 [.i l0, .i l1, .i (IntKind.wrap IntKind.i64 (y + (↑d : Int))), .l h5])) none) none) none] none) none) none) none] none) none) none) none] none) none) none) none] none) none) none, fun r => asN r (fun l2 r => asN r (fun l3 r => asL r (fun l4 r => asL r (fun l5 r => asL r (fun l6 r => asE r (altK (g18 (0, [.n l2, .l l5])) [fun r => asI8 r (fun l7 l8 l9 m0 m1 m2 m3 m4 r => asI r (fun m5 r => asL r (fun p5 r => asE r (altK (g17 (0, I16 e f g h i j k l m l7 l8 l9 m0 m1 m2 m3 [.i m4, .i m5])) [fun r => asI8 r (fun m6 m7 m8 m9 n0 n1 n2 n3 r => asI r (fun n4 r => asE r (altK (g18 (0, [.n l3, .l l6])) [fun r => asI8 r (fun n5 n6 n7 n8 n9 o0 o1 o2 r => asI r (fun o3 r => asL r (fun p6 r => asE r (altK (g17 (0, I16 n o p q t u v w x n5 n6 n7 n8 n9 o0 o1 [.i o2, .i o3])) [fun r => asI8 r (fun o4 o5 o6 o7 o8 o9 p0 p1 r => asI r (fun p2 r => asE r (some (3, .n b :: I16 m6 m7 m8 m9 n0 n1 n2 n3 n4 o4 o5 o6 o7 o8 o9 p0 [.i p1, .i p2, .i (IntKind.wrap IntKind.i64 (y + (↑d : Int))), .l l4])) none) none) none] none) none) none) none) none, fun r => none] none) none) none) none] none) none) none) none) none, fun r => none] none) none) none) none) none) none) none, fun r => none] none) none) none) none) none) none) none) none) none) none] none
def g14 (s : Nat × List Leaf) : Option (Nat × List Leaf) := match s.1 with
  | 0 => let r := s.2; asN r (fun a r => asL r (fun b r => asN r (fun c r => Ze r (fun d e f g h i j k l m n o p q t u r => asI r (fun v r => asI r (fun w r => asI r (fun x r => asT r (fun y r => asE r (g14_0 a b c d e f g h i j k l m n o p q t u v w x y) none) none) none) none) none) none) none) none) none
  | 1 => let r := s.2; asN r (fun a r => asL r (fun b r => Ze r (fun c d e f g h i j k l m n o p q t r => asI r (fun u r => asI r (fun v r => asI r (fun w r => asE r (g14_1 a b c d e f g h i j k l m n o p q t u v w) none) none) none) none) none) none) none
  | _ => none
def ent14 : Ent := ⟨ain14, aout14, g14⟩
def os14 : List (Orc × List (List Bool)) := [(orc14_0, [[true, false, false, false], [false, true, false, false], [false, false, true, false], [false, false, false, true]]), (orc14_1, [[true, false, true, false], [false, true, false, true], [false, false, true, false], [false, false, false, true]])]
theorem ok14 (n : Nat) : Zq (evF tab (n + 5)) 14 ent14 :=
  ZC (n := n + 4) (ck14 n) (OK := Zg os14) (body := kc14) (show Zy (Zg os14) (evF tab (n + 4)) kc14 from ⟨trivial, ⟨⟨trivial, ⟨⟨trivial, ⟨trivial, trivial⟩⟩, trivial⟩⟩, ⟨trivial, ⟨⟨trivial, ⟨trivial, (Z2 (os := os14) (i := 1) (o := orc14_1) rfl (snd14_1 n))⟩⟩, ⟨trivial, ⟨trivial, ⟨trivial, ⟨trivial, ⟨trivial, trivial⟩⟩⟩⟩⟩⟩⟩⟩⟩) t14 (by kernel_rfl)
    (Zs (Q := fun i sh => ∀ ls, Zah sh ls (fun args h => fnK (Zz es14) (Zg os14) sf14 kc14 args h (ZE aout14 0) none) none = g14 (i, ls)) (l := ain14) ⟨fun ls => by kernel_rfl, ⟨fun ls => by kernel_rfl, trivial⟩⟩)
def es13 : List (FuncId × Ent × List (List Bool)) := []
theorem ck13 (n : Nat) : Zx (Zz es13) (evF tab (n + 0)) :=
  Zu
def kc13_0 : KC := (.seq (.seq (.seq (.reg r13_6) (.cond (.t 20) .skip (.seq (.kill [2, 6, 10, 20]) (.exit 2)))) (.seq (.block 3 (.seq (.reg r13_7) (.reg r13_8))) (.reg r13_9))) (.seq (.kill [2, 10, 20]) .tidy))
def in13_0 : List SPat := [⟨[(0, (.ro (.ints .i64) .h 10)), (2, .unk), (3, .nils), (4, pI), (5, (.ptr 0 (.c 0))), (6, (.cint .i64 (0))), (10, .unk), (20, .unk)], [(true, (.agg [pI, pI, pI, pI, pI, pI, pI, pI, pI, pI, .nils, .nils]))], [], 0⟩, ⟨[(0, (.ro (.ints .i64) .h 10)), (2, .unk), (3, .nils), (4, pI), (5, (.ptr 0 (.c 0))), (6, (.cint .i64 (1))), (10, .unk), (20, .unk)], [(true, (.agg [pI, pI, pI, pI, pI, pI, pI, pI, pI, pI, (.slice 1 (.c 0) .h 1), (.slice 3 (.c 0) .h 1)])), (true, (.agg [(.ptr 2 (.c 0))])), (true, (.intsE .i64 9)), (true, (.agg [(.ptr 4 (.c 0))])), (true, (.agg [pI, pI, pI, .nils]))], [], 0⟩, ⟨[(0, (.ro (.ints .i64) .h 10)), (2, .unk), (3, .nils), (4, pI), (5, (.ptr 0 (.c 0))), (6, (.cint .i64 (2))), (10, .unk), (20, .unk)], [(true, pF2), (true, (.agg [(.ptr 2 (.c 0)), (.ptr 3 (.c 0))])), (true, (.intsE .i64 9)), (true, (.intsE .i64 9)), (true, (.agg [(.ptr 5 (.c 0)), (.ptr 6 (.c 0))])), (true, (.agg [pI, pI, pI, .nils])), (true, (.agg [pI, pI, pI, .nils]))], [], 0⟩, ⟨[(0, (.ro (.ints .i64) .h 10)), (2, .unk), (3, (.slice 0 (.c 0) .h 1)), (4, pI), (5, (.ptr 1 (.c 0))), (6, (.cint .i64 (0))), (10, .unk), (20, .unk)], [(false, (.tree 0)), (true, (.agg [pI, pI, pI, pI, pI, pI, pI, pI, pI, pI, .nils, .nils]))], [], 0⟩, ⟨[(0, (.ro (.ints .i64) .h 10)), (2, .unk), (3, (.slice 0 (.c 0) .h 1)), (4, pI), (5, (.ptr 1 (.c 0))), (6, (.cint .i64 (1))), (10, .unk), (20, .unk)], [(false, (.tree 0)), (true, (.agg [pI, pI, pI, pI, pI, pI, pI, pI, pI, pI, (.slice 2 (.c 0) .h 1), (.slice 4 (.c 0) .h 1)])), (true, (.agg [(.ptr 3 (.c 0))])), (true, (.intsE .i64 9)), (true, (.agg [(.ptr 5 (.c 0))])), (true, (.agg [pI, pI, pI, .nils]))], [], 0⟩, ⟨[(0, (.ro (.ints .i64) .h 10)), (2, .unk), (3, (.slice 0 (.c 0) .h 1)), (4, pI), (5, (.ptr 1 (.c 0))), (6, (.cint .i64 (2))), (10, .unk), (20, .unk)], [(false, (.tree 0)), (true, pF7), (true, (.agg [(.ptr 3 (.c 0)), (.ptr 4 (.c 0))])), (true, (.intsE .i64 9)), (true, (.intsE .i64 9)), (true, (.agg [(.ptr 6 (.c 0)), (.ptr 7 (.c 0))])), (true, (.agg [pI, pI, pI, .nils])), (true, (.agg [pI, pI, pI, .nils]))], [], 0⟩]
def out13_0 : List (SX × SPat) := [((.exit 2), ⟨[(0, (.ro (.ints .i64) .h 10)), (2, .unk), (3, .nils), (4, pI), (5, (.ptr 0 (.c 0))), (6, .unk), (10, .unk), (20, .unk)], [(true, pF2), (true, (.agg [(.ptr 2 (.c 0)), (.ptr 3 (.c 0))])), (true, (.intsE .i64 9)), (true, (.intsE .i64 9)), (true, (.agg [(.ptr 5 (.c 0)), (.ptr 6 (.c 0))])), (true, (.agg [pI, pI, pI, .nils])), (true, (.agg [pI, pI, pI, .nils]))], [], 0⟩), ((.exit 2), ⟨[(0, (.ro (.ints .i64) .h 10)), (2, .unk), (3, (.slice 0 (.c 0) .h 1)), (4, pI), (5, (.ptr 1 (.c 0))), (6, .unk), (10, .unk), (20, .unk)], [(false, (.tree 0)), (true, pF7), (true, (.agg [(.ptr 3 (.c 0)), (.ptr 4 (.c 0))])), (true, (.intsE .i64 9)), (true, (.intsE .i64 9)), (true, (.agg [(.ptr 6 (.c 0)), (.ptr 7 (.c 0))])), (true, (.agg [pI, pI, pI, .nils])), (true, (.agg [pI, pI, pI, .nils]))], [], 0⟩)]
def f13_0_0 (c : Nat) (b : List Int) (a d e f g h i j k l m : Int) : Option (Nat × List Leaf) :=
  if 0 ≤ a ∧ a < (↑c : Int) then if Int.toNat a * (10 : Nat) + (1 : Nat) + (5 : Nat) ≤ List.length b then if 0 ≤ a ∧ a < (↑c : Int) then if Int.toNat a * (10 : Nat) + (6 : Nat) + (3 : Nat) ≤ List.length b then some (1, .n c :: .l b :: I8 a d e f g h i j (.i k :: .i l :: .i m :: .n ((1 : Nat)) :: .n ((1 : Nat)) :: I8 (List.getD b (Int.toNat a * (10 : Nat) + (1 : Nat)) 0) (List.getD b (Int.toNat a * (10 : Nat) + (1 : Nat) + (1 : Nat)) 0) (List.getD b (Int.toNat a * (10 : Nat) + (1 : Nat) + (2 : Nat)) 0) (List.getD b (Int.toNat a * (10 : Nat) + (1 : Nat) + (3 : Nat)) 0) (List.getD b (Int.toNat a * (10 : Nat) + (1 : Nat) + (4 : Nat)) 0) (0) (0) (0) (I4 (0) (List.getD b (Int.toNat a * (10 : Nat) + (6 : Nat)) 0) (List.getD b (Int.toNat a * (10 : Nat) + (6 : Nat) + (1 : Nat)) 0) (List.getD b (Int.toNat a * (10 : Nat) + (6 : Nat) + (2 : Nat)) 0) []))) else none else none else none else none
def f13_0_1 (c : Nat) (b : List Int) (a f g h i j k l m n o : Int) (d : Nat) (e : Nat) (p q t u v w x y z a0 a1 a2 : Int) : Option (Nat × List Leaf) :=
  if 0 ≤ a ∧ a < (↑c : Int) then if Int.toNat a * (10 : Nat) + (1 : Nat) + (5 : Nat) ≤ List.length b then if (d + (1 : Nat)) * (8 : Nat) ≤ (70368744177664 : Nat) then if (1 : Nat) = d * (1 : Nat) then if 0 ≤ a ∧ a < (↑c : Int) then if Int.toNat a * (10 : Nat) + (6 : Nat) + (3 : Nat) ≤ List.length b then if (e + (1 : Nat)) * (8 : Nat) ≤ (70368744177664 : Nat) then if (1 : Nat) = e * (1 : Nat) then some (2, .n c :: .l b :: I8 a f g h i j k l (.i m :: .i n :: .i o :: .n (d + (1 : Nat)) :: .n (e + (1 : Nat)) :: I16 p q t u v w x y z (List.getD b (Int.toNat a * (10 : Nat) + (1 : Nat)) 0) (List.getD b (Int.toNat a * (10 : Nat) + (1 : Nat) + (1 : Nat)) 0) (List.getD b (Int.toNat a * (10 : Nat) + (1 : Nat) + (2 : Nat)) 0) (List.getD b (Int.toNat a * (10 : Nat) + (1 : Nat) + (3 : Nat)) 0) (List.getD b (Int.toNat a * (10 : Nat) + (1 : Nat) + (4 : Nat)) 0) (0) (0) (I8 (0) (0) a0 a1 a2 (List.getD b (Int.toNat a * (10 : Nat) + (6 : Nat)) 0) (List.getD b (Int.toNat a * (10 : Nat) + (6 : Nat) + (1 : Nat)) 0) (List.getD b (Int.toNat a * (10 : Nat) + (6 : Nat) + (2 : Nat)) 0) []))) else none else none else none else none else none else none else none else none
def f13_0_2 (a : Nat) (b : List Int) (c d e f g h i j k l m : Int) (n : Nat) (o : Nat) (p q t u v w x y z a0 a1 a2 a3 a4 a5 a6 a7 a8 a9 b0 b1 b2 b3 b4 : Int) : Option (Nat × List Leaf) :=
  some (6, .n a :: .l b :: I8 c d e f g h i j (.i k :: .i l :: .i m :: .n n :: .n o :: I16 p q t u v w x y z a0 a1 a2 a3 a4 a5 a6 (I8 a7 a8 a9 b0 b1 b2 b3 b4 [])))
def f13_0_3 (c : Nat) (b : List Int) (d : Nat) (a : Int) (e : List ME) (f g h i j k l m n o : Int) : Option (Nat × List Leaf) :=
  if 0 ≤ a ∧ a < (↑c : Int) then if Int.toNat a * (10 : Nat) + (1 : Nat) + (5 : Nat) ≤ List.length b then if 0 ≤ a ∧ a < (↑c : Int) then if Int.toNat a * (10 : Nat) + (6 : Nat) + (3 : Nat) ≤ List.length b then some (4, .n c :: .l b :: .n d :: .i a :: .t (e) :: I8 f g h i j k l m (.i n :: .i o :: .n ((1 : Nat)) :: .n ((1 : Nat)) :: I8 (List.getD b (Int.toNat a * (10 : Nat) + (1 : Nat)) 0) (List.getD b (Int.toNat a * (10 : Nat) + (1 : Nat) + (1 : Nat)) 0) (List.getD b (Int.toNat a * (10 : Nat) + (1 : Nat) + (2 : Nat)) 0) (List.getD b (Int.toNat a * (10 : Nat) + (1 : Nat) + (3 : Nat)) 0) (List.getD b (Int.toNat a * (10 : Nat) + (1 : Nat) + (4 : Nat)) 0) (0) (0) (0) (I4 (0) (List.getD b (Int.toNat a * (10 : Nat) + (6 : Nat)) 0) (List.getD b (Int.toNat a * (10 : Nat) + (6 : Nat) + (1 : Nat)) 0) (List.getD b (Int.toNat a * (10 : Nat) + (6 : Nat) + (2 : Nat)) 0) []))) else none else none else none else none
def f13_0_4 (c : Nat) (b : List Int) (f : Nat) (a : Int) (g : List ME) (h i j k l m n o p q : Int) (d : Nat) (e : Nat) (t u v w x y z a0 a1 a2 a3 a4 : Int) : Option (Nat × List Leaf) :=
  if 0 ≤ a ∧ a < (↑c : Int) then if Int.toNat a * (10 : Nat) + (1 : Nat) + (5 : Nat) ≤ List.length b then if (d + (1 : Nat)) * (8 : Nat) ≤ (70368744177664 : Nat) then if (1 : Nat) = d * (1 : Nat) then if 0 ≤ a ∧ a < (↑c : Int) then if Int.toNat a * (10 : Nat) + (6 : Nat) + (3 : Nat) ≤ List.length b then if (e + (1 : Nat)) * (8 : Nat) ≤ (70368744177664 : Nat) then if (1 : Nat) = e * (1 : Nat) then some (5, .n c :: .l b :: .n f :: .i a :: .t (g) :: I8 h i j k l m n o (.i p :: .i q :: .n (d + (1 : Nat)) :: .n (e + (1 : Nat)) :: I16 t u v w x y z a0 a1 (List.getD b (Int.toNat a * (10 : Nat) + (1 : Nat)) 0) (List.getD b (Int.toNat a * (10 : Nat) + (1 : Nat) + (1 : Nat)) 0) (List.getD b (Int.toNat a * (10 : Nat) + (1 : Nat) + (2 : Nat)) 0) (List.getD b (Int.toNat a * (10 : Nat) + (1 : Nat) + (3 : Nat)) 0) (List.getD b (Int.toNat a * (10 : Nat) + (1 : Nat) + (4 : Nat)) 0) (0) (0) (I8 (0) (0) a2 a3 a4 (List.getD b (Int.toNat a * (10 : Nat) + (6 : Nat)) 0) (List.getD b (Int.toNat a * (10 : Nat) + (6 : Nat) + (1 : Nat)) 0) (List.getD b (Int.toNat a * (10 : Nat) + (6 : Nat) + (2 : Nat)) 0) []))) else none else none else none else none else none else none else none else none
def f13_0_5 (a : Nat) (b : List Int) (c : Nat) (d : Int) (e : List ME) (f g h i j k l m n o : Int) (p : Nat) (q : Nat) (t u v w x y z a0 a1 a2 a3 a4 a5 a6 a7 a8 a9 b0 b1 b2 b3 b4 b5 b6 : Int) : Option (Nat × List Leaf) :=
  some (7, .n a :: .l b :: .n c :: .i d :: .t (e) :: I8 f g h i j k l m (.i n :: .i o :: .n p :: .n q :: I16 t u v w x y z a0 a1 a2 a3 a4 a5 a6 a7 a8 (I8 a9 b0 b1 b2 b3 b4 b5 b6 [])))
def f13_0 (s : Nat × List Leaf) : Option (Nat × List Leaf) := match s.1 with
  | 0 => let r := s.2; asN r (fun a r => asL r (fun b r => asI8 r (fun c d e f g h i j r => asI r (fun k r => asI r (fun l r => asI r (fun m r => asE r (f13_0_0 a b c d e f g h i j k l m) none) none) none) none) none) none) none
  | 1 => let r := s.2; asN r (fun a r => asL r (fun b r => asI8 r (fun c d e f g h i j r => asI r (fun k r => asI r (fun l r => asI r (fun m r => asN r (fun b0 r => asN r (fun b1 r => asI8 r (fun b2 b3 b4 b5 b6 b7 b8 b9 r => asI4 r (fun c0 c1 c2 c3 r => asE r (f13_0_1 a b c d e f g h i j k l m b0 b1 b2 b3 b4 b5 b6 b7 b8 b9 c0 c1 c2 c3) none) none) none) none) none) none) none) none) none) none) none
  | 2 => let r := s.2; asN r (fun a r => asL r (fun b r => asI8 r (fun c d e f g h i j r => asI r (fun k r => asI r (fun l r => asI r (fun m r => asN r (fun b0 r => asN r (fun b1 r => Ze r (fun b2 b3 b4 b5 b6 b7 b8 b9 c0 n o p q t u v r => asI8 r (fun w x c4 c5 c6 c7 c8 c9 r => asE r (f13_0_2 a b c d e f g h i j k l m b0 b1 b2 b3 b4 b5 b6 b7 b8 b9 c0 n o p q t u v w x c4 c5 c6 c7 c8 c9) none) none) none) none) none) none) none) none) none) none) none
  | 3 => let r := s.2; asN r (fun a r => asL r (fun b r => asN r (fun y r => asI r (fun c r => asT r (fun z r => asI8 r (fun a0 a1 a2 a3 a4 a5 a6 a7 r => asI r (fun a8 r => asI r (fun a9 r => asE r (f13_0_3 a b y c z a0 a1 a2 a3 a4 a5 a6 a7 a8 a9) none) none) none) none) none) none) none) none) none
  | 4 => let r := s.2; asN r (fun a r => asL r (fun b r => asN r (fun y r => asI r (fun c r => asT r (fun z r => asI8 r (fun a0 a1 a2 a3 a4 a5 a6 a7 r => asI r (fun a8 r => asI r (fun a9 r => asN r (fun d0 r => asN r (fun d1 r => asI8 r (fun n o p q t u v w r => asI4 r (fun x c4 c5 c6 r => asE r (f13_0_4 a b y c z a0 a1 a2 a3 a4 a5 a6 a7 a8 a9 d0 d1 n o p q t u v w x c4 c5 c6) none) none) none) none) none) none) none) none) none) none) none) none) none
  | 5 => let r := s.2; asN r (fun a r => asL r (fun b r => asN r (fun y r => asI r (fun c r => asT r (fun z r => asI8 r (fun a0 a1 a2 a3 a4 a5 a6 a7 r => asI r (fun a8 r => asI r (fun a9 r => asN r (fun d0 r => asN r (fun d1 r => Ze r (fun n o p q t u v w x c1 c2 c3 d2 d3 d4 d5 r => asI8 r (fun d6 d7 c7 c8 c9 d8 d9 e0 r => asE r (f13_0_5 a b y c z a0 a1 a2 a3 a4 a5 a6 a7 a8 a9 d0 d1 n o p q t u v w x c1 c2 c3 d2 d3 d4 d5 d6 d7 c7 c8 c9 d8 d9 e0) none) none) none) none) none) none) none) none) none) none) none) none) none
  | _ => none
def Zk4 (s : Nat × List Leaf) : Option (Nat × List Leaf) := ZbN 6 f13_0 s
def orc13_0 : Orc := ⟨in13_0, out13_0, Zk4⟩
def os13_0 : List (Orc × List (List Bool)) := []
theorem snd13_0 (n : Nat) : ZU (evF tab (n + 0)) (.loop l13_10) orc13_0 :=
  ZX (b := kc13_0) (OK := Zg os13_0) (ck13 n) (show Zy (Zg os13_0) (evF tab (n + 0)) kc13_0 from ⟨⟨⟨trivial, ⟨trivial, ⟨trivial, trivial⟩⟩⟩, ⟨⟨trivial, trivial⟩, trivial⟩⟩, ⟨trivial, trivial⟩⟩) (ins := in13_0) (outs := out13_0) (f := f13_0) (by kernel_rfl)
    (Zs (Q := fun i sh => ∀ ls, ZaJ sh ls (fun st => evK (Zz es13) (Zg os13_0) kc13_0 st (ZV (in13_0.map (SX.normal, ·) ++ out13_0) 0) none) none = f13_0 (i, ls)) (l := in13_0) ⟨fun ls => by kernel_rfl, ⟨fun ls => by kernel_rfl, ⟨fun ls => by kernel_rfl, ⟨fun ls => by kernel_rfl, ⟨fun ls => by kernel_rfl, ⟨fun ls => by kernel_rfl, trivial⟩⟩⟩⟩⟩⟩)
def kc13_1 : KC := (.seq (.seq (.seq (.reg r13_3) (.cond (.t 10) .skip (.seq (.kill [0, 2, 4, 5, 6, 10, 20]) (.exit 0)))) (.seq (.block 1 (.seq (.reg r13_4) (.seq (.seq (.reg r13_5) (.block 2 (.seq (.kill [2, 10, 20]) (.orc 0 (.loop l13_10))))) (.reg r13_11)))) (.reg r13_12))) (.seq (.kill [2, 5, 6, 10, 20]) .tidy))
def in13_1 : List SPat := [⟨[(0, (.ro (.ints .i64) .h 10)), (2, .unk), (3, .nils), (4, pI), (5, .unk), (6, .unk), (10, .unk), (20, .unk)], [], [], 0⟩, ⟨[(0, (.ro (.ints .i64) .h 10)), (2, .unk), (3, (.slice 0 (.c 0) .h 1)), (4, pI), (5, .unk), (6, .unk), (10, .unk), (20, .unk)], [(false, (.tree 0))], [], 0⟩]
def out13_1 : List (SX × SPat) := [((.exit 0), ⟨[(0, .unk), (2, .unk), (3, .nils), (4, .unk), (5, .unk), (6, .unk), (10, .unk), (20, .unk)], [], [], 0⟩), ((.exit 0), ⟨[(0, .unk), (2, .unk), (3, (.slice 0 (.c 0) .h 1)), (4, .unk), (5, .unk), (6, .unk), (10, .unk), (20, .unk)], [(false, (.tree 0))], [], 0⟩)]
def f13_1_0 (c : Nat) (b : List Int) (a : Int) : Option (Nat × List Leaf) :=
  cond (decide (a < (↑c : Int))) (if 0 ≤ a ∧ a < (↑c : Int) then if Int.toNat a * (10 : Nat) + (10 : Nat) ≤ List.length b then altK (Zk4 (0, .n c :: .l b :: I8 a (List.getD b (Int.toNat a * (10 : Nat)) 0) (List.getD b (Int.toNat a * (10 : Nat) + (1 : Nat)) 0) (List.getD b (Int.toNat a * (10 : Nat) + (2 : Nat)) 0) (List.getD b (Int.toNat a * (10 : Nat) + (3 : Nat)) 0) (List.getD b (Int.toNat a * (10 : Nat) + (4 : Nat)) 0) (List.getD b (Int.toNat a * (10 : Nat) + (5 : Nat)) 0) (List.getD b (Int.toNat a * (10 : Nat) + (6 : Nat)) 0) [.i (List.getD b (Int.toNat a * (10 : Nat) + (7 : Nat)) 0), .i (List.getD b (Int.toNat a * (10 : Nat) + (8 : Nat)) 0), .i (List.getD b (Int.toNat a * (10 : Nat) + (9 : Nat)) 0)])) [fun r => asN r (fun d r => asL r (fun e r => asI8 r (fun f g h i j k l m r => asI r (fun n r => asI r (fun o r => asI r (fun p r => asN r (fun q r => asN r (fun t r => Ze r (fun u v w x y z a0 a1 a2 a3 a4 a5 a6 a7 a8 a9 r => asI8 r (fun b0 b1 b2 b3 b4 b5 b6 b7 r => asE r (some (1, [.n d, .l e, .n ((1 : Nat)), .i (IntKind.wrap IntKind.i64 (f + (1 : Int))), .t ([[(Bool.true, EV.agg [EV.int IntKind.i64 g, EV.int IntKind.i64 h, EV.int IntKind.i64 i, EV.int IntKind.i64 j, EV.int IntKind.i64 k, EV.int IntKind.i64 l, EV.int IntKind.i64 m, EV.int IntKind.i64 n, EV.int IntKind.i64 o, EV.int IntKind.i64 p, EV.slice (1 : Nat) (0 : Nat) q (1 : Nat), EV.slice (4 : Nat) (0 : Nat) t (1 : Nat)]), (Bool.true, EV.agg [EV.ptr (2 : Nat) (0 : Nat), EV.ptr (3 : Nat) (0 : Nat)]), (Bool.true, EV.ints IntKind.i64 [u, v, w, x, y, z, a0, a1, a2]), (Bool.true, EV.ints IntKind.i64 [a3, a4, a5, a6, a7, a8, a9, b0, b1]), (Bool.true, EV.agg [EV.ptr (5 : Nat) (0 : Nat), EV.ptr (6 : Nat) (0 : Nat)]), (Bool.true, EV.agg [EV.int IntKind.i64 b2, EV.int IntKind.i64 b3, EV.int IntKind.i64 b4, EV.nils]), (Bool.true, EV.agg [EV.int IntKind.i64 b5, EV.int IntKind.i64 b6, EV.int IntKind.i64 b7, EV.nils])]])])) none) none) none) none) none) none) none) none) none) none) none, fun r => none] none else none else none) (some (2, []))
def f13_1_1 (c : Nat) (b : List Int) (e : Nat) (a : Int) (f : List ME) : Option (Nat × List Leaf) :=
  cond (decide (a < (↑c : Int))) (if 0 ≤ a ∧ a < (↑c : Int) then if Int.toNat a * (10 : Nat) + (10 : Nat) ≤ List.length b then altK (Zk4 (3, .n c :: .l b :: .n e :: .i a :: .t (f) :: I8 (List.getD b (Int.toNat a * (10 : Nat)) 0) (List.getD b (Int.toNat a * (10 : Nat) + (1 : Nat)) 0) (List.getD b (Int.toNat a * (10 : Nat) + (2 : Nat)) 0) (List.getD b (Int.toNat a * (10 : Nat) + (3 : Nat)) 0) (List.getD b (Int.toNat a * (10 : Nat) + (4 : Nat)) 0) (List.getD b (Int.toNat a * (10 : Nat) + (5 : Nat)) 0) (List.getD b (Int.toNat a * (10 : Nat) + (6 : Nat)) 0) (List.getD b (Int.toNat a * (10 : Nat) + (7 : Nat)) 0) [.i (List.getD b (Int.toNat a * (10 : Nat) + (8 : Nat)) 0), .i (List.getD b (Int.toNat a * (10 : Nat) + (9 : Nat)) 0)])) [fun r => none, fun r => asN r (fun h r => asL r (fun i r => asN r (fun d r => asI r (fun j r => asT r (fun g r => asI8 r (fun k l m n o p q t r => asI r (fun u r => asI r (fun v r => asN r (fun w r => asN r (fun x r => Ze r (fun y z a0 a1 a2 a3 a4 a5 a6 a7 a8 a9 b0 b1 b2 b3 r => asI8 r (fun b4 b5 b6 b7 b8 b9 c0 c1 r => asE r (if d = List.length g then if (d + (1 : Nat)) * (8 : Nat) ≤ (70368744177664 : Nat) then some (1, [.n h, .l i, .n (d + (1 : Nat)), .i (IntKind.wrap IntKind.i64 (j + (1 : Int))), .t (g ++ [[(Bool.true, EV.agg [EV.int IntKind.i64 k, EV.int IntKind.i64 l, EV.int IntKind.i64 m, EV.int IntKind.i64 n, EV.int IntKind.i64 o, EV.int IntKind.i64 p, EV.int IntKind.i64 q, EV.int IntKind.i64 t, EV.int IntKind.i64 u, EV.int IntKind.i64 v, EV.slice (1 : Nat) (0 : Nat) w (1 : Nat), EV.slice (4 : Nat) (0 : Nat) x (1 : Nat)]), (Bool.true, EV.agg [EV.ptr (2 : Nat) (0 : Nat), EV.ptr (3 : Nat) (0 : Nat)]), (Bool.true, EV.ints IntKind.i64 [y, z, a0, a1, a2, a3, a4, a5, a6]), (Bool.true, EV.ints IntKind.i64 [a7, a8, a9, b0, b1, b2, b3, b4, b5]), (Bool.true, EV.agg [EV.ptr (5 : Nat) (0 : Nat), EV.ptr (6 : Nat) (0 : Nat)]), (Bool.true, EV.agg [EV.int IntKind.i64 b6, EV.int IntKind.i64 b7, EV.int IntKind.i64 b8, EV.nils]), (Bool.true, EV.agg [EV.int IntKind.i64 b9, EV.int IntKind.i64 c0, EV.int IntKind.i64 c1, EV.nils])]])]) else none else none) none) none) none) none) none) none) none) none) none) none) none) none) none] none else none else none) (some (3, [.n e, .t (f)]))
def f13_1 (s : Nat × List Leaf) : Option (Nat × List Leaf) := match s.1 with
  | 0 => let r := s.2; asN r (fun a r => asL r (fun b r => asI r (fun c r => asE r (f13_1_0 a b c) none) none) none) none
  | 1 => let r := s.2; asN r (fun a r => asL r (fun b r => asN r (fun d r => asI r (fun c r => asT r (fun e r => asE r (f13_1_1 a b d c e) none) none) none) none) none) none
  | _ => none
def Zl4 (s : Nat × List Leaf) : Option (Nat × List Leaf) := ZbN 2 f13_1 s
def orc13_1 : Orc := ⟨in13_1, out13_1, Zl4⟩
def os13_1 : List (Orc × List (List Bool)) := [(orc13_0, [[true, false], [true, false], [true, false], [false, true], [false, true], [false, true]])]
theorem snd13_1 (n : Nat) : ZU (evF tab (n + 0)) (.loop l13_13) orc13_1 :=
  ZX (b := kc13_1) (OK := Zg os13_1) (ck13 n) (show Zy (Zg os13_1) (evF tab (n + 0)) kc13_1 from ⟨⟨⟨trivial, ⟨trivial, ⟨trivial, trivial⟩⟩⟩, ⟨⟨trivial, ⟨⟨trivial, ⟨trivial, (Z2 (os := os13_1) (i := 0) (o := orc13_0) rfl (snd13_0 n))⟩⟩, trivial⟩⟩, trivial⟩⟩, ⟨trivial, trivial⟩⟩) (ins := in13_1) (outs := out13_1) (f := f13_1) (by kernel_rfl)
    (Zs (Q := fun i sh => ∀ ls, ZaJ sh ls (fun st => evK (Zz es13) (Zg os13_1) kc13_1 st (ZV (in13_1.map (SX.normal, ·) ++ out13_1) 0) none) none = f13_1 (i, ls)) (l := in13_1) ⟨fun ls => by kernel_rfl, ⟨fun ls => by kernel_rfl, trivial⟩⟩)
def kc13 : KC := (.seq (.reg r13_0) (.seq (.reg r13_1) (.seq (.seq (.reg r13_2) (.block 0 (.seq (.kill [2, 5, 6, 10, 20]) (.orc 1 (.loop l13_13))))) (.seq (.reg r13_14) (.seq (.kill [0, 3, 4, 5, 6, 10, 20]) .ret)))))
def ain13 : List APat := [⟨[(.ro (.ints .i64) .h 10)], []⟩]
def aout13 : List RPat := [⟨.nils, [], []⟩, ⟨(.slice 0 (.c 0) .h 1), [(false, (.tree 0))], []⟩]
def g13_0 (a : Nat) (b : List Int) : Option (Nat × List Leaf) :=
  altK (Zl4 (0, [.n a, .l b, .i (0)])) [fun r => asE r (some (0, [])) none, fun r => asN r (fun c r => asT r (fun d r => asE r (some (1, [.n c, .t (d)])) none) none) none] none
def g13 (s : Nat × List Leaf) : Option (Nat × List Leaf) := match s.1 with
  | 0 => let r := s.2; asN r (fun a r => asL r (fun b r => asE r (g13_0 a b) none) none) none
  | _ => none
def ent13 : Ent := ⟨ain13, aout13, g13⟩
def os13 : List (Orc × List (List Bool)) := [(orc13_0, [[true, false], [true, false], [true, false], [false, true], [false, true], [false, true]]), (orc13_1, [[true, true], [false, true]])]
theorem ok13 (n : Nat) : Zq (evF tab (n + 1)) 13 ent13 :=
  ZC (n := n + 0) (ck13 n) (OK := Zg os13) (body := kc13) (show Zy (Zg os13) (evF tab (n + 0)) kc13 from ⟨trivial, ⟨trivial, ⟨⟨trivial, ⟨trivial, (Z2 (os := os13) (i := 1) (o := orc13_1) rfl (snd13_1 n))⟩⟩, ⟨trivial, ⟨trivial, trivial⟩⟩⟩⟩⟩) t13 (by kernel_rfl)
    (Zs (Q := fun i sh => ∀ ls, Zah sh ls (fun args h => fnK (Zz es13) (Zg os13) sf13 kc13 args h (ZE aout13 0) none) none = g13 (i, ls)) (l := ain13) ⟨fun ls => by kernel_rfl, trivial⟩)
def es15 : List (FuncId × Ent × List (List Bool)) := [(8, ent8, [[true]]), (28, ent28, [[true, true, false, false], [false, false, true, true]])]
theorem ck15 (n : Nat) : Zx (Zz es15) (evF tab (n + 3)) :=
  Zf (ok8 (n + 2)) (Zf (ok28 (n + 0)) (Zu))
def kc15_0 : KC := (.seq (.seq (.seq (.reg r15_3) (.cond (.t 16) .skip (.seq (.kill [0, 1, 5, 16]) (.exit 0)))) (.seq (.block 1 (.reg r15_4)) (.reg r15_5))) (.kill [1, 16]))
def in15_0 : List SPat := [⟨[(0, (.slice 0 (.c 0) .h 1)), (1, .unk), (3, (.ptr 1 (.c 0))), (4, (.ptr 2 (.c 0))), (5, pI), (16, .unk)], [(false, (.tree 0)), (true, (.intsE .i64 2)), (true, (.intsE .i64 2))], [], 1⟩, ⟨[(0, .nils), (1, .unk), (3, (.ptr 0 (.c 0))), (4, (.ptr 1 (.c 0))), (5, pI), (16, .unk)], [(true, (.intsE .i64 2)), (true, (.intsE .i64 2))], [], 0⟩]
def out15_0 : List (SX × SPat) := [((.exit 0), ⟨[(0, .unk), (1, .unk), (3, (.ptr 1 (.c 0))), (4, (.ptr 2 (.c 0))), (5, .unk), (16, .unk)], [(false, (.tree 0)), (true, (.intsE .i64 2)), (true, (.intsE .i64 2))], [], 1⟩), ((.exit 0), ⟨[(0, .unk), (1, .unk), (3, (.ptr 0 (.c 0))), (4, (.ptr 1 (.c 0))), (5, .unk), (16, .unk)], [(true, (.intsE .i64 2)), (true, (.intsE .i64 2))], [], 0⟩)]
def f15_0_0 (c : Nat) (a : Int) (b : List ME) (d e f g : Int) : Option (Nat × List Leaf) :=
  cond (decide (a < (↑c : Int))) (if 0 ≤ a ∧ a < (↑c : Int) then if Int.toNat a < List.length b then optK (b[Int.toNat a]?) (fun h => trK (trE ent28 0 (h) ([EV.ints IntKind.i64 [d, e]])) (fun i j k => some (0, .n c :: .i (IntKind.wrap IntKind.i64 (a + (1 : Int))) :: .t (List.set b (Int.toNat a) k) :: I4 i j f g [])) none) (none) else none else none) (some (2, .t (b) :: I4 d e f g []))
def f15_0_1 (a b c d e : Int) : Option (Nat × List Leaf) :=
  cond (decide (a < 0)) (none) (some (3, I4 b c d e []))
def f15_0 (s : Nat × List Leaf) : Option (Nat × List Leaf) := match s.1 with
  | 0 => let r := s.2; asN r (fun d r => asI r (fun a r => asT r (fun e r => asI4 r (fun b c f g r => asE r (f15_0_0 d a e b c f g) none) none) none) none) none
  | 1 => let r := s.2; asI4 r (fun a h i b r => asI r (fun c r => asE r (f15_0_1 a h i b c) none) none) none
  | _ => none
def Zk5 (s : Nat × List Leaf) : Option (Nat × List Leaf) := ZbN 2 f15_0 s
def orc15_0 : Orc := ⟨in15_0, out15_0, Zk5⟩
def os15_0 : List (Orc × List (List Bool)) := []
theorem snd15_0 (n : Nat) : ZU (evF tab (n + 3)) (.loop l15_6) orc15_0 :=
  ZX (b := kc15_0) (OK := Zg os15_0) (ck15 n) (show Zy (Zg os15_0) (evF tab (n + 3)) kc15_0 from ⟨⟨⟨trivial, ⟨trivial, ⟨trivial, trivial⟩⟩⟩, ⟨trivial, trivial⟩⟩, trivial⟩) (ins := in15_0) (outs := out15_0) (f := f15_0) (by kernel_rfl)
    (Zs (Q := fun i sh => ∀ ls, ZaJ sh ls (fun st => evK (Zz es15) (Zg os15_0) kc15_0 st (ZV (in15_0.map (SX.normal, ·) ++ out15_0) 0) none) none = f15_0 (i, ls)) (l := in15_0) ⟨fun ls => by kernel_rfl, ⟨fun ls => by kernel_rfl, trivial⟩⟩)
def kc15 : KC := (.seq (.reg r15_0) (.seq (.reg r15_1) (.seq (.seq (.reg r15_2) (.block 0 (.seq (.kill [1, 16]) (.orc 0 (.loop l15_6))))) (.seq (.reg r15_7) (.seq (.kill [0, 1, 3, 5, 16]) .ret)))))
def ain15 : List APat := [⟨[(.slice 0 (.c 0) .h 1), (.intsE .i64 2)], [(false, (.tree 0))]⟩, ⟨[.nils, (.intsE .i64 2)], []⟩]
def aout15 : List RPat := [⟨(.intsE .i64 2), [(false, (.tree 0))], []⟩, ⟨(.intsE .i64 2), [], []⟩]
def g15_0 (a : Nat) (b c : Int) (d : List ME) : Option (Nat × List Leaf) :=
  altK (g8 (0, [.i b])) [fun r => asI r (fun e r => asE r (altK (g8 (0, [.i c])) [fun r => asI r (fun f r => asE r (altK (Zk5 (0, .n a :: .i (0) :: .t (d) :: I4 e f (0) (0) [])) [fun r => asT r (fun g r => asI4 r (fun h i j k r => asE r (some (0, [.i h, .i i, .t (g)])) none) none) none, fun r => none] none) none) none] none) none) none] none
def g15_1 (a b : Int) : Option (Nat × List Leaf) :=
  altK (g8 (0, [.i a])) [fun r => asI r (fun c r => asE r (altK (g8 (0, [.i b])) [fun r => asI r (fun d r => asE r (altK (Zk5 (1, I4 (0) c d (0) [.i (0)])) [fun r => none, fun r => asI4 r (fun e f g h r => asE r (some (1, [.i e, .i f])) none) none] none) none) none] none) none) none] none
def g15 (s : Nat × List Leaf) : Option (Nat × List Leaf) := match s.1 with
  | 0 => let r := s.2; asN r (fun a r => asI r (fun b r => asI r (fun c r => asT r (fun d r => asE r (g15_0 a b c d) none) none) none) none) none
  | 1 => let r := s.2; asI r (fun a r => asI r (fun b r => asE r (g15_1 a b) none) none) none
  | _ => none
def ent15 : Ent := ⟨ain15, aout15, g15⟩
def os15 : List (Orc × List (List Bool)) := [(orc15_0, [[true, false], [false, true]])]
theorem ok15 (n : Nat) : Zq (evF tab (n + 4)) 15 ent15 :=
  ZC (n := n + 3) (ck15 n) (OK := Zg os15) (body := kc15) (show Zy (Zg os15) (evF tab (n + 3)) kc15 from ⟨trivial, ⟨trivial, ⟨⟨trivial, ⟨trivial, (Z2 (os := os15) (i := 0) (o := orc15_0) rfl (snd15_0 n))⟩⟩, ⟨trivial, ⟨trivial, trivial⟩⟩⟩⟩⟩) t15 (by kernel_rfl)
    (Zs (Q := fun i sh => ∀ ls, Zah sh ls (fun args h => fnK (Zz es15) (Zg os15) sf15 kc15 args h (ZE aout15 0) none) none = g15 (i, ls)) (l := ain15) ⟨fun ls => by kernel_rfl, ⟨fun ls => by kernel_rfl, trivial⟩⟩)
theorem ok6 (n : Nat) : Zq (evF tab (n + 20)) 6 ZkV := ZhO (by kernel_rfl)
end Go.Proofs.Ytlbfafbhflblcaa.P
