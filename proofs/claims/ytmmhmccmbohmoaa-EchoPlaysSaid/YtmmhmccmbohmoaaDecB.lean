/-
  Functions of this seat as functions of leaves, by program, and that the abstract machine answers as they do. Conditions: none.
-/
import Derived.Test.YtmmhmccmbohmoaaTab
import Derived.Test.YtmmhmccmbohmoaaSxW
import Derived.KernelRfl
namespace Go.Proofs.Ytmmhmccmbohmoaa.B
open Go Go.Sx
set_option maxRecDepth 100000
set_option linter.unusedVariables false
/-! function 8 -/
def es8 : List (FuncId × Ent) := []
theorem ck8 (n : Nat) : CallKOk (ckOf es8) (evF tab (n + 0)) :=
  ckOf_nil
def kc8 : KC := (.seq (.reg r8_0) (.seq (.reg r8_1) (.seq (.kill [0, 1]) .ret)))
def ain8 : List APat := [⟨[(.intsE .i64 3)], []⟩]
def aout8 : List RPat := [⟨.bool, [], []⟩]
def g8_0 (a0_0 : Int) (a0_1 : Int) (a0_2 : Int) : Option (Nat × List Leaf) :=
  cond (Decidable.decide ((1 : Int) ≤ a0_0)) (cond (Decidable.decide (a0_0 ≤ (4096 : Int))) (cond (Decidable.decide ((0 : Int) ≤ a0_1)) (cond (Decidable.decide (a0_1 < (256 : Int))) (cond (Decidable.decide ((0 : Int) ≤ a0_2)) (some (0, [.b (Decidable.decide (a0_2 ≤ (256 : Int)))])) (some (0, [.b (Bool.false)]))) (some (0, [.b (Bool.false)]))) (some (0, [.b (Bool.false)]))) (some (0, [.b (Bool.false)]))) (some (0, [.b (Bool.false)]))
def g8 (s : Nat × List Leaf) : Option (Nat × List Leaf) := match s.1 with
  | 0 => let r := s.2; asI r (fun a0_0 r => asI r (fun a0_1 r => asI r (fun a0_2 r => asE r (g8_0 a0_0 a0_1 a0_2) none) none) none) none
  | _ => none
def ent8 : Ent := ⟨ain8, aout8, g8⟩
def os8 : List Orc := []
theorem ok8 (n : Nat) : EntSound (evF tab (n + 1)) 8 ent8 :=
  fn_sound (n := n + 0) (ck8 n) (OK := okOf os8) (body := kc8) (show OrcsOk (okOf os8) (evF tab (n + 0)) kc8 from ⟨trivial, ⟨trivial, ⟨trivial, trivial⟩⟩⟩) t8 (by kernel_rfl)
    (all_ins (Q := fun i sh => ∀ ls, fillA sh ls (fun args h => fnK (ckOf es8) (okOf os8) sf8 kc8 args h (findRes aout8 0) none) none = g8 (i, ls)) (l := ain8) ⟨fun ls => by kernel_rfl, trivial⟩)
/-! function 7 -/
def es7 : List (FuncId × Ent) := [(8, ent8)]
theorem ck7 (n : Nat) : CallKOk (ckOf es7) (evF tab (n + 1)) :=
  ckOf_cons (ok8 (n + 0)) (ckOf_nil)
def kc7 : KC := (.seq (.reg r7_0) (.seq (.seq (.reg r7_1) (.cond (.t 6) (.seq (.reg r7_2) (.seq (.kill [0, 1, 6]) .ret)) .skip)) (.seq (.reg r7_3) (.seq (.kill [0, 1, 6]) .ret))))
def ain7 : List APat := [⟨[(.intsE .i64 3)], []⟩]
def aout7 : List RPat := [⟨(.tup [(.ptr 0 (.c 0)), (.int .i64)]), [(true, (.agg [(.int .i64), (.int .i64), (.int .i64), (.slice 1 (.c 0) .h 1), (.int .i64)])), (true, (.ints .i64))], []⟩, ⟨(.tup [.nilp, (.int .i64)]), [], []⟩]
def g7_0 (a0_0 : Int) (a0_1 : Int) (a0_2 : Int) : Option (Nat × List Leaf) :=
  altK (g8 (0, [.i (a0_0), .i (a0_1), .i (a0_2)])) [fun r => asB r (fun x1 r => asE r (cond (!x1) (some (1, [.i ((1 : Int))])) (if a0_0 = a0_0 then if (0 : Int) ≤ a0_0 then if (8 : Int) * a0_0 ≤ (140737488355328 : Int) then if a0_0 ≤ (9223372036854775807 : Int) then some (0, [.i ((0 : Int)), .i (a0_0), .i (a0_1), .i (a0_2), .n (Int.toNat a0_0), .i ((0 : Int)), .l (List.replicate (Int.toNat a0_0) (0 : Int))]) else none else none else none else none)) none) none] none
def g7 (s : Nat × List Leaf) : Option (Nat × List Leaf) := match s.1 with
  | 0 => let r := s.2; asI r (fun a0_0 r => asI r (fun a0_1 r => asI r (fun a0_2 r => asE r (g7_0 a0_0 a0_1 a0_2) none) none) none) none
  | _ => none
def ent7 : Ent := ⟨ain7, aout7, g7⟩
def os7 : List Orc := []
theorem ok7 (n : Nat) : EntSound (evF tab (n + 2)) 7 ent7 :=
  fn_sound (n := n + 1) (ck7 n) (OK := okOf os7) (body := kc7) (show OrcsOk (okOf os7) (evF tab (n + 1)) kc7 from ⟨trivial, ⟨⟨trivial, ⟨⟨trivial, ⟨trivial, trivial⟩⟩, trivial⟩⟩, ⟨trivial, ⟨trivial, trivial⟩⟩⟩⟩) t7 (by kernel_rfl)
    (all_ins (Q := fun i sh => ∀ ls, fillA sh ls (fun args h => fnK (ckOf es7) (okOf os7) sf7 kc7 args h (findRes aout7 0) none) none = g7 (i, ls)) (l := ain7) ⟨fun ls => by kernel_rfl, trivial⟩)
/-! function 9 -/
def es9 : List (FuncId × Ent) := []
theorem ck9 (n : Nat) : CallKOk (ckOf es9) (evF tab (n + 0)) :=
  ckOf_nil
def kc9 : KC := (.seq (.reg r9_0) (.seq (.reg r9_1) (.seq (.kill [0, 1]) .ret)))
def ain9 : List APat := [⟨[(.intsE .i64 3)], []⟩]
def aout9 : List RPat := [⟨.bool, [], []⟩]
def g9_0 (a0_0 : Int) (a0_1 : Int) (a0_2 : Int) : Option (Nat × List Leaf) :=
  cond (Decidable.decide ((1 : Int) ≤ a0_0)) (cond (Decidable.decide (a0_0 ≤ (4096 : Int))) (cond (Decidable.decide ((0 : Int) ≤ a0_1)) (cond (Decidable.decide (a0_1 ≤ (255 : Int))) (cond (Decidable.decide ((0 : Int) ≤ a0_2)) (some (0, [.b (Decidable.decide (a0_2 ≤ (256 : Int)))])) (some (0, [.b (Bool.false)]))) (some (0, [.b (Bool.false)]))) (some (0, [.b (Bool.false)]))) (some (0, [.b (Bool.false)]))) (some (0, [.b (Bool.false)]))
def g9 (s : Nat × List Leaf) : Option (Nat × List Leaf) := match s.1 with
  | 0 => let r := s.2; asI r (fun a0_0 r => asI r (fun a0_1 r => asI r (fun a0_2 r => asE r (g9_0 a0_0 a0_1 a0_2) none) none) none) none
  | _ => none
def ent9 : Ent := ⟨ain9, aout9, g9⟩
def os9 : List Orc := []
theorem ok9 (n : Nat) : EntSound (evF tab (n + 1)) 9 ent9 :=
  fn_sound (n := n + 0) (ck9 n) (OK := okOf os9) (body := kc9) (show OrcsOk (okOf os9) (evF tab (n + 0)) kc9 from ⟨trivial, ⟨trivial, ⟨trivial, trivial⟩⟩⟩) t9 (by kernel_rfl)
    (all_ins (Q := fun i sh => ∀ ls, fillA sh ls (fun args h => fnK (ckOf es9) (okOf os9) sf9 kc9 args h (findRes aout9 0) none) none = g9 (i, ls)) (l := ain9) ⟨fun ls => by kernel_rfl, trivial⟩)
/-! function 6 -/
def es6 : List (FuncId × Ent) := []
theorem ck6 (n : Nat) : CallKOk (ckOf es6) (evF tab (n + 0)) :=
  ckOf_nil
def kc6_0 : KC := (.seq (.seq (.seq (.reg r6_3) (.cond (.t 12) .skip (.seq (.kill [0, 2, 4, 12]) (.exit 0)))) (.seq (.block 1 (.reg r6_4)) (.reg r6_5))) (.kill [2, 12]))
def in6_0 : List SPat := [⟨[(0, .nils), (2, .unk), (3, .nils), (4, (.int .i64)), (12, .unk)], [], [], 0⟩, ⟨[(0, (.slice 0 (.c 0) .h 1)), (2, .unk), (3, .nils), (4, (.int .i64)), (12, .unk)], [(true, .unk)], [], 1⟩]
def out6_0 : List (SX × SPat) := [((.exit 0), ⟨[(0, .unk), (2, .unk), (3, .nils), (4, .unk), (12, .unk)], [], [], 0⟩), ((.exit 0), ⟨[(0, .unk), (2, .unk), (3, .nils), (4, .unk), (12, .unk)], [(true, .unk)], [], 1⟩)]
def f6_0_0 (t4 : Int) : Option (Nat × List Leaf) :=
  cond (Decidable.decide (t4 < (0 : Int))) (cond (Decidable.decide (t4 < (150 : Int))) (none) (some (2, []))) (some (2, []))
def f6_0_1 (t0n : Nat) (t4 : Int) : Option (Nat × List Leaf) :=
  cond (Decidable.decide (t4 < (↑t0n : Int))) (cond (Decidable.decide (t4 < (150 : Int))) (if (0 : Int) ≤ t4 ∧ t4 < (↑t0n : Int) then none else none) (some (3, []))) (some (3, []))
def f6_0 (s : Nat × List Leaf) : Option (Nat × List Leaf) := match s.1 with
  | 0 => let r := s.2; asI r (fun t4 r => asE r (f6_0_0 t4) none) none
  | 1 => let r := s.2; asN r (fun t0n r => asI r (fun t4 r => asE r (f6_0_1 t0n t4) none) none) none
  | _ => none
def L6_0 (s : Nat × List Leaf) : Option (Nat × List Leaf) := loopL 2 f6_0 s
def orc6_0 : Orc := ⟨in6_0, out6_0, L6_0⟩
def os6_0 : List Orc := []
theorem snd6_0 (n : Nat) : OrcSound (evF tab (n + 0)) (.loop l6_6) orc6_0 :=
  loop_sound (b := kc6_0) (OK := okOf os6_0) (ck6 n) (show OrcsOk (okOf os6_0) (evF tab (n + 0)) kc6_0 from ⟨⟨⟨trivial, ⟨trivial, ⟨trivial, trivial⟩⟩⟩, ⟨trivial, trivial⟩⟩, trivial⟩) (ins := in6_0) (outs := out6_0) (f := f6_0) (by kernel_rfl)
    (all_ins (Q := fun i sh => ∀ ls, fillS sh ls (fun st => evK (ckOf es6) (okOf os6_0) kc6_0 st (findOut (in6_0.map (SX.normal, ·) ++ out6_0) 0) none) none = f6_0 (i, ls)) (l := in6_0) ⟨fun ls => by kernel_rfl, ⟨fun ls => by kernel_rfl, trivial⟩⟩)
def kc6 : KC := (.seq (.reg r6_0) (.seq (.reg r6_1) (.seq (.seq (.reg r6_2) (.block 0 (.seq (.kill [2, 12]) (.orc 0 (.loop l6_6))))) (.seq (.reg r6_7) (.seq (.kill [0, 3, 4, 12]) .ret)))))
def ain6 : List APat := [⟨[.nils], []⟩, ⟨[(.slice 0 (.c 0) (.c 0) 1)], [(true, .unk)]⟩]
def aout6 : List RPat := [⟨.nils, [], []⟩, ⟨.nils, [(true, .unk)], []⟩]
def g6_0  : Option (Nat × List Leaf) :=
  altK (L6_0 (0, [.i ((0 : Int))])) [fun r => asE r (some (0, [])) none, fun r => asE r (some (0, [])) none] none
def g6_1  : Option (Nat × List Leaf) :=
  altK (L6_0 (1, [.n ((0 : Nat)), .i ((0 : Int))])) [fun r => asE r (none) none, fun r => asE r (some (1, [])) none] none
def g6 (s : Nat × List Leaf) : Option (Nat × List Leaf) := match s.1 with
  | 0 => let r := s.2; asE r (g6_0) none
  | 1 => let r := s.2; asE r (g6_1) none
  | _ => none
def ent6 : Ent := ⟨ain6, aout6, g6⟩
def os6 : List Orc := [orc6_0]
theorem ok6 (n : Nat) : EntSound (evF tab (n + 1)) 6 ent6 :=
  fn_sound (n := n + 0) (ck6 n) (OK := okOf os6) (body := kc6) (show OrcsOk (okOf os6) (evF tab (n + 0)) kc6 from ⟨trivial, ⟨trivial, ⟨⟨trivial, ⟨trivial, (okOf_ok (os := os6) (i := 0) (o := orc6_0) rfl (snd6_0 n))⟩⟩, ⟨trivial, ⟨trivial, trivial⟩⟩⟩⟩⟩) t6 (by kernel_rfl)
    (all_ins (Q := fun i sh => ∀ ls, fillA sh ls (fun args h => fnK (ckOf es6) (okOf os6) sf6 kc6 args h (findRes aout6 0) none) none = g6 (i, ls)) (l := ain6) ⟨fun ls => by kernel_rfl, ⟨fun ls => by kernel_rfl, trivial⟩⟩)
/-! function 11 -/
def es11 : List (FuncId × Ent) := []
theorem ck11 (n : Nat) : CallKOk (ckOf es11) (evF tab (n + 0)) :=
  ckOf_nil
def kc11 : KC := (.seq (.reg r11_0) (.seq (.seq (.reg r11_1) (.cond (.t 15) (.seq (.reg r11_2) (.seq (.kill [0, 1, 5, 15]) .ret)) .skip)) (.seq (.reg r11_3) (.seq (.reg r11_4) (.seq (.reg r11_5) (.seq (.reg r11_6) (.seq (.kill [0, 1, 5, 15]) .ret)))))))
def ain11 : List APat := [⟨[.nilp, (.int .i64)], []⟩]
def aout11 : List RPat := [⟨(.int .i64), [], []⟩]
def g11_0 (a1 : Int) : Option (Nat × List Leaf) :=
  some (0, [.i (a1)])
def g11 (s : Nat × List Leaf) : Option (Nat × List Leaf) := match s.1 with
  | 0 => let r := s.2; asI r (fun a1 r => asE r (g11_0 a1) none) none
  | _ => none
def ent11 : Ent := ⟨ain11, aout11, g11⟩
def os11 : List Orc := []
theorem ok11 (n : Nat) : EntSound (evF tab (n + 1)) 11 ent11 :=
  fn_sound (n := n + 0) (ck11 n) (OK := okOf os11) (body := kc11) (show OrcsOk (okOf os11) (evF tab (n + 0)) kc11 from ⟨trivial, ⟨⟨trivial, ⟨⟨trivial, ⟨trivial, trivial⟩⟩, trivial⟩⟩, ⟨trivial, ⟨trivial, ⟨trivial, ⟨trivial, ⟨trivial, trivial⟩⟩⟩⟩⟩⟩⟩) t11 (by kernel_rfl)
    (all_ins (Q := fun i sh => ∀ ls, fillA sh ls (fun args h => fnK (ckOf es11) (okOf os11) sf11 kc11 args h (findRes aout11 0) none) none = g11 (i, ls)) (l := ain11) ⟨fun ls => by kernel_rfl, trivial⟩)
/-! function 12 -/
def es12 : List (FuncId × Ent) := []
theorem ck12 (n : Nat) : CallKOk (ckOf es12) (evF tab (n + 0)) :=
  ckOf_nil
def kc12 : KC := (.seq (.reg r12_0) (.seq (.reg r12_1) (.seq (.seq (.reg r12_2) (.cond (.t 16) (.reg r12_3) .skip)) (.seq (.reg r12_4) (.seq (.reg r12_5) (.seq (.kill [0, 1, 5, 16]) .ret))))))
def ain12 : List APat := [⟨[.nilp, (.int .i64)], []⟩]
def aout12 : List RPat := []
def g12_0 (a1 : Int) : Option (Nat × List Leaf) :=
  none
def g12 (s : Nat × List Leaf) : Option (Nat × List Leaf) := match s.1 with
  | 0 => let r := s.2; asI r (fun a1 r => asE r (g12_0 a1) none) none
  | _ => none
def ent12 : Ent := ⟨ain12, aout12, g12⟩
def os12 : List Orc := []
theorem ok12 (n : Nat) : EntSound (evF tab (n + 1)) 12 ent12 :=
  fn_sound (n := n + 0) (ck12 n) (OK := okOf os12) (body := kc12) (show OrcsOk (okOf os12) (evF tab (n + 0)) kc12 from ⟨trivial, ⟨trivial, ⟨⟨trivial, ⟨trivial, trivial⟩⟩, ⟨trivial, ⟨trivial, ⟨trivial, trivial⟩⟩⟩⟩⟩⟩) t12 (by kernel_rfl)
    (all_ins (Q := fun i sh => ∀ ls, fillA sh ls (fun args h => fnK (ckOf es12) (okOf os12) sf12 kc12 args h (findRes aout12 0) none) none = g12 (i, ls)) (l := ain12) ⟨fun ls => by kernel_rfl, trivial⟩)
/-! function 10: closed -/
theorem ok10 (n : Nat) : EntSound (evF tab (n + 20)) 10 awakeE := awake_sound (by kernel_rfl)
/-! function 3 -/
def es3 : List (FuncId × Ent) := [(6, ent6), (7, ent7), (8, ent8), (9, ent9), (10, awakeE)]
theorem ck3 (n : Nat) : CallKOk (ckOf es3) (evF tab (n + 20)) :=
  ckOf_cons (ok6 (n + 19)) (ckOf_cons (ok7 (n + 18)) (ckOf_cons (ok8 (n + 19)) (ckOf_cons (ok9 (n + 19)) (ckOf_cons (ok10 (n + 0)) (ckOf_nil)))))
def kc3_0 : KC := (.seq (.seq (.seq (.reg r3_11) (.cond (.t 55) .skip (.seq (.kill [0, 1, 2, 4, 5, 6, 7, 8, 20, 23, 48, 55, 77]) (.exit 0)))) (.seq (.block 1 (.seq (.reg r3_12) (.cond (.t 77) (.seq (.reg r3_13) (.seq (.kill [0, 1, 2, 5, 6, 7, 8, 20, 23, 48, 55, 77]) .ret)) .skip))) (.reg r3_14))) (.kill [0, 2, 4, 6, 20, 23, 48, 55, 77]))
def in3_0 : List SPat := [⟨[(0, .unk), (1, .nils), (2, .unk), (4, .unk), (5, (.ptr 1 (.c 0))), (6, .unk), (7, (.ptr 3 (.c 0))), (8, (.int .i64)), (20, .unk), (23, .unk), (48, .unk), (55, .unk), (77, .unk)], [(true, (.intsE .i64 3)), (true, (.agg [(.int .i64), (.int .i64), (.int .i64), (.slice 2 (.c 0) .h 1), (.int .i64)])), (true, (.ints .i64)), (true, (.agg [(.int .i64), (.int .i64), (.int .i64), .nils]))], [], 0⟩, ⟨[(0, .unk), (1, .nils), (2, .unk), (4, .unk), (5, (.ptr 2 (.c 0))), (6, .unk), (7, (.ptr 4 (.c 0))), (8, (.int .i64)), (20, .unk), (23, .unk), (48, .unk), (55, .unk), (77, .unk)], [(false, .unk), (true, (.intsE .i64 3)), (true, (.agg [(.int .i64), (.int .i64), (.int .i64), (.slice 3 (.c 0) .h 1), (.int .i64)])), (true, (.ints .i64)), (true, (.agg [(.int .i64), (.int .i64), (.int .i64), .nils]))], [], 1⟩, ⟨[(0, .unk), (1, .nils), (2, .unk), (4, .unk), (5, (.ptr 2 (.c 0))), (6, .unk), (7, (.ptr 4 (.c 0))), (8, (.int .i64)), (20, .unk), (23, .unk), (48, .unk), (55, .unk), (77, .unk)], [(true, .unk), (true, (.intsE .i64 3)), (true, (.agg [(.int .i64), (.int .i64), (.int .i64), (.slice 3 (.c 0) .h 1), (.int .i64)])), (true, (.ints .i64)), (true, (.agg [(.int .i64), (.int .i64), (.int .i64), .nils]))], [], 1⟩]
def out3_0 : List (SX × SPat) := [((.exit 0), ⟨[(0, .unk), (1, .unk), (2, .unk), (4, .unk), (5, .unk), (6, .unk), (7, .unk), (8, .unk), (20, .unk), (23, .unk), (48, .unk), (55, .unk), (77, .unk)], [(true, (.intsE .i64 3)), (true, (.agg [(.int .i64), (.int .i64), (.int .i64), (.slice 2 (.c 0) .h 1), (.int .i64)])), (true, (.ints .i64)), (true, (.agg [(.int .i64), (.int .i64), (.int .i64), .nils]))], [], 0⟩), ((.exit 0), ⟨[(0, .unk), (1, .unk), (2, .unk), (4, .unk), (5, .unk), (6, .unk), (7, .unk), (8, .unk), (20, .unk), (23, .unk), (48, .unk), (55, .unk), (77, .unk)], [(false, .unk), (true, (.intsE .i64 3)), (true, (.agg [(.int .i64), (.int .i64), (.int .i64), (.slice 3 (.c 0) .h 1), (.int .i64)])), (true, (.ints .i64)), (true, (.agg [(.int .i64), (.int .i64), (.int .i64), .nils]))], [], 1⟩), ((.exit 0), ⟨[(0, .unk), (1, .unk), (2, .unk), (4, .unk), (5, .unk), (6, .unk), (7, .unk), (8, .unk), (20, .unk), (23, .unk), (48, .unk), (55, .unk), (77, .unk)], [(true, .unk), (true, (.intsE .i64 3)), (true, (.agg [(.int .i64), (.int .i64), (.int .i64), (.slice 3 (.c 0) .h 1), (.int .i64)])), (true, (.ints .i64)), (true, (.agg [(.int .i64), (.int .i64), (.int .i64), .nils]))], [], 1⟩)]
def f3_0_0 (t8 : Int) (h0_0 : Int) (h0_1 : Int) (h0_2 : Int) (h1_0 : Int) (h1_1 : Int) (h1_2 : Int) (h1_3n : Nat) (h1_4 : Int) (h2 : List Int) (h3_0 : Int) (h3_1 : Int) (h3_2 : Int) : Option (Nat × List Leaf) :=
  cond (Decidable.decide (t8 < (0 : Int))) (none) (some (3, [.i (h0_0), .i (h0_1), .i (h0_2), .i (h1_0), .i (h1_1), .i (h1_2), .n (h1_3n), .i (h1_4), .l (h2), .i (h3_0), .i (h3_1), .i (h3_2)]))
def f3_0_1 (t8 : Int) (h1_0 : Int) (h1_1 : Int) (h1_2 : Int) (h2_0 : Int) (h2_1 : Int) (h2_2 : Int) (h2_3n : Nat) (h2_4 : Int) (h3 : List Int) (h4_0 : Int) (h4_1 : Int) (h4_2 : Int) : Option (Nat × List Leaf) :=
  cond (Decidable.decide (t8 < (0 : Int))) (none) (some (4, [.i (h1_0), .i (h1_1), .i (h1_2), .i (h2_0), .i (h2_1), .i (h2_2), .n (h2_3n), .i (h2_4), .l (h3), .i (h4_0), .i (h4_1), .i (h4_2)]))
def f3_0_2 (t8 : Int) (h1_0 : Int) (h1_1 : Int) (h1_2 : Int) (h2_0 : Int) (h2_1 : Int) (h2_2 : Int) (h2_3n : Nat) (h2_4 : Int) (h3 : List Int) (h4_0 : Int) (h4_1 : Int) (h4_2 : Int) : Option (Nat × List Leaf) :=
  cond (Decidable.decide (t8 < (0 : Int))) (none) (some (5, [.i (h1_0), .i (h1_1), .i (h1_2), .i (h2_0), .i (h2_1), .i (h2_2), .n (h2_3n), .i (h2_4), .l (h3), .i (h4_0), .i (h4_1), .i (h4_2)]))
def f3_0 (s : Nat × List Leaf) : Option (Nat × List Leaf) := match s.1 with
  | 0 => let r := s.2; asI r (fun t8 r => asI r (fun h0_0 r => asI r (fun h0_1 r => asI r (fun h0_2 r => asI r (fun h1_0 r => asI r (fun h1_1 r => asI r (fun h1_2 r => asN r (fun h1_3n r => asI r (fun h1_4 r => asL r (fun h2 r => asI r (fun h3_0 r => asI r (fun h3_1 r => asI r (fun h3_2 r => asE r (f3_0_0 t8 h0_0 h0_1 h0_2 h1_0 h1_1 h1_2 h1_3n h1_4 h2 h3_0 h3_1 h3_2) none) none) none) none) none) none) none) none) none) none) none) none) none) none
  | 1 => let r := s.2; asI r (fun t8 r => asI r (fun h1_0 r => asI r (fun h1_1 r => asI r (fun h1_2 r => asI r (fun h2_0 r => asI r (fun h2_1 r => asI r (fun h2_2 r => asN r (fun h2_3n r => asI r (fun h2_4 r => asL r (fun h3 r => asI r (fun h4_0 r => asI r (fun h4_1 r => asI r (fun h4_2 r => asE r (f3_0_1 t8 h1_0 h1_1 h1_2 h2_0 h2_1 h2_2 h2_3n h2_4 h3 h4_0 h4_1 h4_2) none) none) none) none) none) none) none) none) none) none) none) none) none) none
  | 2 => let r := s.2; asI r (fun t8 r => asI r (fun h1_0 r => asI r (fun h1_1 r => asI r (fun h1_2 r => asI r (fun h2_0 r => asI r (fun h2_1 r => asI r (fun h2_2 r => asN r (fun h2_3n r => asI r (fun h2_4 r => asL r (fun h3 r => asI r (fun h4_0 r => asI r (fun h4_1 r => asI r (fun h4_2 r => asE r (f3_0_2 t8 h1_0 h1_1 h1_2 h2_0 h2_1 h2_2 h2_3n h2_4 h3 h4_0 h4_1 h4_2) none) none) none) none) none) none) none) none) none) none) none) none) none) none
  | _ => none
def L3_0 (s : Nat × List Leaf) : Option (Nat × List Leaf) := loopL 3 f3_0 s
def orc3_0 : Orc := ⟨in3_0, out3_0, L3_0⟩
def os3_0 : List Orc := []
theorem snd3_0 (n : Nat) : OrcSound (evF tab (n + 20)) (.loop l3_15) orc3_0 :=
  loop_sound (b := kc3_0) (OK := okOf os3_0) (ck3 n) (show OrcsOk (okOf os3_0) (evF tab (n + 20)) kc3_0 from ⟨⟨⟨trivial, ⟨trivial, ⟨trivial, trivial⟩⟩⟩, ⟨⟨trivial, ⟨⟨trivial, ⟨trivial, trivial⟩⟩, trivial⟩⟩, trivial⟩⟩, trivial⟩) (ins := in3_0) (outs := out3_0) (f := f3_0) (by kernel_rfl)
    (all_ins (Q := fun i sh => ∀ ls, fillS sh ls (fun st => evK (ckOf es3) (okOf os3_0) kc3_0 st (findOut (in3_0.map (SX.normal, ·) ++ out3_0) 0) none) none = f3_0 (i, ls)) (l := in3_0) ⟨fun ls => by kernel_rfl, ⟨fun ls => by kernel_rfl, ⟨fun ls => by kernel_rfl, trivial⟩⟩⟩)
def kc3 : KC := (.seq (.reg r3_0) (.seq (.reg r3_1) (.seq (.reg r3_2) (.seq (.seq (.reg r3_3) (.cond (.t 20) (.seq (.reg r3_4) (.seq (.kill [0, 1, 2, 5, 6, 7, 8, 20, 23, 48, 55, 77]) .ret)) .skip)) (.seq (.seq (.reg r3_5) (.cond (.t 23) (.seq (.reg r3_6) (.seq (.kill [0, 1, 2, 5, 6, 7, 8, 20, 23, 48, 55, 77]) .ret)) .skip)) (.seq (.seq (.reg r3_7) (.cond (.t 48) (.seq (.reg r3_8) (.seq (.kill [0, 1, 2, 5, 6, 7, 8, 20, 23, 48, 55, 77]) .ret)) .skip)) (.seq (.reg r3_9) (.seq (.seq (.reg r3_10) (.block 0 (.seq (.kill [0, 2, 4, 6, 20, 23, 48, 55, 77]) (.orc 0 (.loop l3_15))))) (.seq (.reg r3_16) (.seq (.kill [0, 1, 2, 5, 6, 7, 8, 20, 23, 48, 55, 77]) .ret))))))))))
def ain3 : List APat := [⟨[(.intsE .i64 3), .nils], []⟩, ⟨[(.intsE .i64 3), (.slice 0 (.c 0) (.c 0) 1)], [(true, .unk)]⟩]
def aout3 : List RPat := [⟨.bool, [], []⟩, ⟨.bool, [(false, .unk)], []⟩, ⟨.bool, [(true, .unk)], []⟩, ⟨.bool, [(true, (.intsE .i64 3))], []⟩]
def g3_0 (a0_0 : Int) (a0_1 : Int) (a0_2 : Int) : Option (Nat × List Leaf) :=
  altK (g6 (0, [])) [fun r => asE r (altK (g7 (0, [.i (a0_0), .i (a0_1), .i (a0_2)])) [fun r => asI r (fun x2_1 r => asI r (fun x2h0_0 r => asI r (fun x2h0_1 r => asI r (fun x2h0_2 r => asN r (fun x2h0_3n r => asI r (fun x2h0_4 r => asL r (fun x2h1 r => asE r (altK (g8 (0, [.i (a0_0), .i (a0_1), .i (a0_2)])) [fun r => asB r (fun x3 r => asE r (altK (g9 (0, [.i (a0_0), .i (a0_1), .i (a0_2)])) [fun r => asB r (fun x4 r => asE r (cond (Decidable.decide (x3 ≠ x4)) (some (0, [.b (Bool.false)])) (altK (g9 (0, [.i (a0_0), .i (a0_1), .i (a0_2)])) [fun r => asB r (fun x5 r => asE r (cond (!x5) (some (0, [.b (Bool.false)])) (cond (Decidable.decide (x2_1 ≠ (0 : Int))) (some (0, [.b (Bool.false)])) (cond (Decidable.decide (x2h0_0 ≠ a0_0)) (some (0, [.b (Bool.false)])) (altK (L3_0 (0, [.i ((0 : Int)), .i (a0_0), .i (a0_1), .i (a0_2), .i (x2h0_0), .i (x2h0_1), .i (x2h0_2), .n (x2h0_3n), .i (x2h0_4), .l (x2h1), .i (a0_0), .i (a0_1), .i (a0_2)])) [fun r => asI r (fun x19h0_0 r => asI r (fun x19h0_1 r => asI r (fun x19h0_2 r => asI r (fun x19h1_0 r => asI r (fun x19h1_1 r => asI r (fun x19h1_2 r => asN r (fun x19h1_3n r => asI r (fun x19h1_4 r => asL r (fun x19h2 r => asI r (fun x19h3_0 r => asI r (fun x19h3_1 r => asI r (fun x19h3_2 r => asE r (altK (awakeL (0, [])) [fun r => asB r (fun x20 r => asE r (some (0, [.b (x20)])) none) none] none) none) none) none) none) none) none) none) none) none) none) none) none) none, fun r => asI r (fun x34h1_0 r => asI r (fun x34h1_1 r => asI r (fun x34h1_2 r => asI r (fun x34h2_0 r => asI r (fun x34h2_1 r => asI r (fun x34h2_2 r => asN r (fun x34h2_3n r => asI r (fun x34h2_4 r => asL r (fun x34h3 r => asI r (fun x34h4_0 r => asI r (fun x34h4_1 r => asI r (fun x34h4_2 r => asE r (altK (awakeL (0, [])) [fun r => asB r (fun x35 r => asE r (some (0, [.b (x35)])) none) none] none) none) none) none) none) none) none) none) none) none) none) none) none) none, fun r => asI r (fun x49h1_0 r => asI r (fun x49h1_1 r => asI r (fun x49h1_2 r => asI r (fun x49h2_0 r => asI r (fun x49h2_1 r => asI r (fun x49h2_2 r => asN r (fun x49h2_3n r => asI r (fun x49h2_4 r => asL r (fun x49h3 r => asI r (fun x49h4_0 r => asI r (fun x49h4_1 r => asI r (fun x49h4_2 r => asE r (altK (awakeL (0, [])) [fun r => asB r (fun x50 r => asE r (some (0, [.b (x50)])) none) none] none) none) none) none) none) none) none) none) none) none) none) none) none) none] none)))) none) none] none)) none) none] none) none) none] none) none) none) none) none) none) none) none) none, fun r => asI r (fun x51_1 r => asE r (altK (g8 (0, [.i (a0_0), .i (a0_1), .i (a0_2)])) [fun r => asB r (fun x52 r => asE r (altK (g9 (0, [.i (a0_0), .i (a0_1), .i (a0_2)])) [fun r => asB r (fun x53 r => asE r (cond (Decidable.decide (x52 ≠ x53)) (some (0, [.b (Bool.false)])) (altK (g9 (0, [.i (a0_0), .i (a0_1), .i (a0_2)])) [fun r => asB r (fun x54 r => asE r (cond (!x54) (cond (Decidable.decide (x51_1 = (1 : Int))) (altK (awakeL (0, [])) [fun r => asB r (fun x55 r => asE r (some (0, [.b (x55)])) none) none] none) (some (0, [.b (Bool.false)]))) (some (0, [.b (Bool.false)]))) none) none] none)) none) none] none) none) none] none) none) none] none) none, fun r => asE r (altK (g7 (0, [.i (a0_0), .i (a0_1), .i (a0_2)])) [fun r => asI r (fun x57_1 r => asI r (fun x57h0_0 r => asI r (fun x57h0_1 r => asI r (fun x57h0_2 r => asN r (fun x57h0_3n r => asI r (fun x57h0_4 r => asL r (fun x57h1 r => asE r (altK (g8 (0, [.i (a0_0), .i (a0_1), .i (a0_2)])) [fun r => asB r (fun x58 r => asE r (altK (g9 (0, [.i (a0_0), .i (a0_1), .i (a0_2)])) [fun r => asB r (fun x59 r => asE r (cond (Decidable.decide (x58 ≠ x59)) (some (0, [.b (Bool.false)])) (altK (g9 (0, [.i (a0_0), .i (a0_1), .i (a0_2)])) [fun r => asB r (fun x60 r => asE r (cond (!x60) (some (0, [.b (Bool.false)])) (cond (Decidable.decide (x57_1 ≠ (0 : Int))) (some (0, [.b (Bool.false)])) (cond (Decidable.decide (x57h0_0 ≠ a0_0)) (some (0, [.b (Bool.false)])) (altK (L3_0 (0, [.i ((0 : Int)), .i (a0_0), .i (a0_1), .i (a0_2), .i (x57h0_0), .i (x57h0_1), .i (x57h0_2), .n (x57h0_3n), .i (x57h0_4), .l (x57h1), .i (a0_0), .i (a0_1), .i (a0_2)])) [fun r => asI r (fun x74h0_0 r => asI r (fun x74h0_1 r => asI r (fun x74h0_2 r => asI r (fun x74h1_0 r => asI r (fun x74h1_1 r => asI r (fun x74h1_2 r => asN r (fun x74h1_3n r => asI r (fun x74h1_4 r => asL r (fun x74h2 r => asI r (fun x74h3_0 r => asI r (fun x74h3_1 r => asI r (fun x74h3_2 r => asE r (altK (awakeL (0, [])) [fun r => asB r (fun x75 r => asE r (some (0, [.b (x75)])) none) none] none) none) none) none) none) none) none) none) none) none) none) none) none) none, fun r => asI r (fun x89h1_0 r => asI r (fun x89h1_1 r => asI r (fun x89h1_2 r => asI r (fun x89h2_0 r => asI r (fun x89h2_1 r => asI r (fun x89h2_2 r => asN r (fun x89h2_3n r => asI r (fun x89h2_4 r => asL r (fun x89h3 r => asI r (fun x89h4_0 r => asI r (fun x89h4_1 r => asI r (fun x89h4_2 r => asE r (altK (awakeL (0, [])) [fun r => asB r (fun x90 r => asE r (some (0, [.b (x90)])) none) none] none) none) none) none) none) none) none) none) none) none) none) none) none) none, fun r => asI r (fun x104h1_0 r => asI r (fun x104h1_1 r => asI r (fun x104h1_2 r => asI r (fun x104h2_0 r => asI r (fun x104h2_1 r => asI r (fun x104h2_2 r => asN r (fun x104h2_3n r => asI r (fun x104h2_4 r => asL r (fun x104h3 r => asI r (fun x104h4_0 r => asI r (fun x104h4_1 r => asI r (fun x104h4_2 r => asE r (altK (awakeL (0, [])) [fun r => asB r (fun x105 r => asE r (some (0, [.b (x105)])) none) none] none) none) none) none) none) none) none) none) none) none) none) none) none) none] none)))) none) none] none)) none) none] none) none) none] none) none) none) none) none) none) none) none) none, fun r => asI r (fun x106_1 r => asE r (altK (g8 (0, [.i (a0_0), .i (a0_1), .i (a0_2)])) [fun r => asB r (fun x107 r => asE r (altK (g9 (0, [.i (a0_0), .i (a0_1), .i (a0_2)])) [fun r => asB r (fun x108 r => asE r (cond (Decidable.decide (x107 ≠ x108)) (some (0, [.b (Bool.false)])) (altK (g9 (0, [.i (a0_0), .i (a0_1), .i (a0_2)])) [fun r => asB r (fun x109 r => asE r (cond (!x109) (cond (Decidable.decide (x106_1 = (1 : Int))) (altK (awakeL (0, [])) [fun r => asB r (fun x110 r => asE r (some (0, [.b (x110)])) none) none] none) (some (0, [.b (Bool.false)]))) (some (0, [.b (Bool.false)]))) none) none] none)) none) none] none) none) none] none) none) none] none) none] none
def g3_1 (a0_0 : Int) (a0_1 : Int) (a0_2 : Int) : Option (Nat × List Leaf) :=
  altK (g6 (1, [])) [fun r => asE r (altK (g7 (0, [.i (a0_0), .i (a0_1), .i (a0_2)])) [fun r => asI r (fun x2_1 r => asI r (fun x2h0_0 r => asI r (fun x2h0_1 r => asI r (fun x2h0_2 r => asN r (fun x2h0_3n r => asI r (fun x2h0_4 r => asL r (fun x2h1 r => asE r (altK (g8 (0, [.i (a0_0), .i (a0_1), .i (a0_2)])) [fun r => asB r (fun x3 r => asE r (altK (g9 (0, [.i (a0_0), .i (a0_1), .i (a0_2)])) [fun r => asB r (fun x4 r => asE r (cond (Decidable.decide (x3 ≠ x4)) (some (1, [.b (Bool.false)])) (altK (g9 (0, [.i (a0_0), .i (a0_1), .i (a0_2)])) [fun r => asB r (fun x5 r => asE r (cond (!x5) (some (1, [.b (Bool.false)])) (cond (Decidable.decide (x2_1 ≠ (0 : Int))) (some (1, [.b (Bool.false)])) (cond (Decidable.decide (x2h0_0 ≠ a0_0)) (some (1, [.b (Bool.false)])) (altK (L3_0 (1, [.i ((0 : Int)), .i (a0_0), .i (a0_1), .i (a0_2), .i (x2h0_0), .i (x2h0_1), .i (x2h0_2), .n (x2h0_3n), .i (x2h0_4), .l (x2h1), .i (a0_0), .i (a0_1), .i (a0_2)])) [fun r => asI r (fun x19h0_0 r => asI r (fun x19h0_1 r => asI r (fun x19h0_2 r => asI r (fun x19h1_0 r => asI r (fun x19h1_1 r => asI r (fun x19h1_2 r => asN r (fun x19h1_3n r => asI r (fun x19h1_4 r => asL r (fun x19h2 r => asI r (fun x19h3_0 r => asI r (fun x19h3_1 r => asI r (fun x19h3_2 r => asE r (altK (awakeL (0, [])) [fun r => asB r (fun x20 r => asE r (some (3, [.b (x20), .i (x19h0_0), .i (x19h0_1), .i (x19h0_2)])) none) none] none) none) none) none) none) none) none) none) none) none) none) none) none) none, fun r => asI r (fun x34h1_0 r => asI r (fun x34h1_1 r => asI r (fun x34h1_2 r => asI r (fun x34h2_0 r => asI r (fun x34h2_1 r => asI r (fun x34h2_2 r => asN r (fun x34h2_3n r => asI r (fun x34h2_4 r => asL r (fun x34h3 r => asI r (fun x34h4_0 r => asI r (fun x34h4_1 r => asI r (fun x34h4_2 r => asE r (altK (awakeL (0, [])) [fun r => asB r (fun x35 r => asE r (some (1, [.b (x35)])) none) none] none) none) none) none) none) none) none) none) none) none) none) none) none) none, fun r => asI r (fun x49h1_0 r => asI r (fun x49h1_1 r => asI r (fun x49h1_2 r => asI r (fun x49h2_0 r => asI r (fun x49h2_1 r => asI r (fun x49h2_2 r => asN r (fun x49h2_3n r => asI r (fun x49h2_4 r => asL r (fun x49h3 r => asI r (fun x49h4_0 r => asI r (fun x49h4_1 r => asI r (fun x49h4_2 r => asE r (altK (awakeL (0, [])) [fun r => asB r (fun x50 r => asE r (some (2, [.b (x50)])) none) none] none) none) none) none) none) none) none) none) none) none) none) none) none) none] none)))) none) none] none)) none) none] none) none) none] none) none) none) none) none) none) none) none) none, fun r => asI r (fun x51_1 r => asE r (altK (g8 (0, [.i (a0_0), .i (a0_1), .i (a0_2)])) [fun r => asB r (fun x52 r => asE r (altK (g9 (0, [.i (a0_0), .i (a0_1), .i (a0_2)])) [fun r => asB r (fun x53 r => asE r (cond (Decidable.decide (x52 ≠ x53)) (some (1, [.b (Bool.false)])) (altK (g9 (0, [.i (a0_0), .i (a0_1), .i (a0_2)])) [fun r => asB r (fun x54 r => asE r (cond (!x54) (cond (Decidable.decide (x51_1 = (1 : Int))) (altK (awakeL (0, [])) [fun r => asB r (fun x55 r => asE r (some (1, [.b (x55)])) none) none] none) (some (1, [.b (Bool.false)]))) (some (1, [.b (Bool.false)]))) none) none] none)) none) none] none) none) none] none) none) none] none) none, fun r => asE r (altK (g7 (0, [.i (a0_0), .i (a0_1), .i (a0_2)])) [fun r => asI r (fun x57_1 r => asI r (fun x57h0_0 r => asI r (fun x57h0_1 r => asI r (fun x57h0_2 r => asN r (fun x57h0_3n r => asI r (fun x57h0_4 r => asL r (fun x57h1 r => asE r (altK (g8 (0, [.i (a0_0), .i (a0_1), .i (a0_2)])) [fun r => asB r (fun x58 r => asE r (altK (g9 (0, [.i (a0_0), .i (a0_1), .i (a0_2)])) [fun r => asB r (fun x59 r => asE r (cond (Decidable.decide (x58 ≠ x59)) (some (2, [.b (Bool.false)])) (altK (g9 (0, [.i (a0_0), .i (a0_1), .i (a0_2)])) [fun r => asB r (fun x60 r => asE r (cond (!x60) (some (2, [.b (Bool.false)])) (cond (Decidable.decide (x57_1 ≠ (0 : Int))) (some (2, [.b (Bool.false)])) (cond (Decidable.decide (x57h0_0 ≠ a0_0)) (some (2, [.b (Bool.false)])) (altK (L3_0 (2, [.i ((0 : Int)), .i (a0_0), .i (a0_1), .i (a0_2), .i (x57h0_0), .i (x57h0_1), .i (x57h0_2), .n (x57h0_3n), .i (x57h0_4), .l (x57h1), .i (a0_0), .i (a0_1), .i (a0_2)])) [fun r => asI r (fun x74h0_0 r => asI r (fun x74h0_1 r => asI r (fun x74h0_2 r => asI r (fun x74h1_0 r => asI r (fun x74h1_1 r => asI r (fun x74h1_2 r => asN r (fun x74h1_3n r => asI r (fun x74h1_4 r => asL r (fun x74h2 r => asI r (fun x74h3_0 r => asI r (fun x74h3_1 r => asI r (fun x74h3_2 r => asE r (altK (awakeL (0, [])) [fun r => asB r (fun x75 r => asE r (some (3, [.b (x75), .i (x74h0_0), .i (x74h0_1), .i (x74h0_2)])) none) none] none) none) none) none) none) none) none) none) none) none) none) none) none) none, fun r => asI r (fun x89h1_0 r => asI r (fun x89h1_1 r => asI r (fun x89h1_2 r => asI r (fun x89h2_0 r => asI r (fun x89h2_1 r => asI r (fun x89h2_2 r => asN r (fun x89h2_3n r => asI r (fun x89h2_4 r => asL r (fun x89h3 r => asI r (fun x89h4_0 r => asI r (fun x89h4_1 r => asI r (fun x89h4_2 r => asE r (altK (awakeL (0, [])) [fun r => asB r (fun x90 r => asE r (some (1, [.b (x90)])) none) none] none) none) none) none) none) none) none) none) none) none) none) none) none) none, fun r => asI r (fun x104h1_0 r => asI r (fun x104h1_1 r => asI r (fun x104h1_2 r => asI r (fun x104h2_0 r => asI r (fun x104h2_1 r => asI r (fun x104h2_2 r => asN r (fun x104h2_3n r => asI r (fun x104h2_4 r => asL r (fun x104h3 r => asI r (fun x104h4_0 r => asI r (fun x104h4_1 r => asI r (fun x104h4_2 r => asE r (altK (awakeL (0, [])) [fun r => asB r (fun x105 r => asE r (some (2, [.b (x105)])) none) none] none) none) none) none) none) none) none) none) none) none) none) none) none) none] none)))) none) none] none)) none) none] none) none) none] none) none) none) none) none) none) none) none) none, fun r => asI r (fun x106_1 r => asE r (altK (g8 (0, [.i (a0_0), .i (a0_1), .i (a0_2)])) [fun r => asB r (fun x107 r => asE r (altK (g9 (0, [.i (a0_0), .i (a0_1), .i (a0_2)])) [fun r => asB r (fun x108 r => asE r (cond (Decidable.decide (x107 ≠ x108)) (some (2, [.b (Bool.false)])) (altK (g9 (0, [.i (a0_0), .i (a0_1), .i (a0_2)])) [fun r => asB r (fun x109 r => asE r (cond (!x109) (cond (Decidable.decide (x106_1 = (1 : Int))) (altK (awakeL (0, [])) [fun r => asB r (fun x110 r => asE r (some (2, [.b (x110)])) none) none] none) (some (2, [.b (Bool.false)]))) (some (2, [.b (Bool.false)]))) none) none] none)) none) none] none) none) none] none) none) none] none) none] none
def g3 (s : Nat × List Leaf) : Option (Nat × List Leaf) := match s.1 with
  | 0 => let r := s.2; asI r (fun a0_0 r => asI r (fun a0_1 r => asI r (fun a0_2 r => asE r (g3_0 a0_0 a0_1 a0_2) none) none) none) none
  | 1 => let r := s.2; asI r (fun a0_0 r => asI r (fun a0_1 r => asI r (fun a0_2 r => asE r (g3_1 a0_0 a0_1 a0_2) none) none) none) none
  | _ => none
def ent3 : Ent := ⟨ain3, aout3, g3⟩
def os3 : List Orc := [orc3_0]
theorem ok3 (n : Nat) : EntSound (evF tab (n + 21)) 3 ent3 :=
  fn_sound (n := n + 20) (ck3 n) (OK := okOf os3) (body := kc3) (show OrcsOk (okOf os3) (evF tab (n + 20)) kc3 from ⟨trivial, ⟨trivial, ⟨trivial, ⟨⟨trivial, ⟨⟨trivial, ⟨trivial, trivial⟩⟩, trivial⟩⟩, ⟨⟨trivial, ⟨⟨trivial, ⟨trivial, trivial⟩⟩, trivial⟩⟩, ⟨⟨trivial, ⟨⟨trivial, ⟨trivial, trivial⟩⟩, trivial⟩⟩, ⟨trivial, ⟨⟨trivial, ⟨trivial, (okOf_ok (os := os3) (i := 0) (o := orc3_0) rfl (snd3_0 n))⟩⟩, ⟨trivial, ⟨trivial, trivial⟩⟩⟩⟩⟩⟩⟩⟩⟩⟩) t3 (by kernel_rfl)
    (all_ins (Q := fun i sh => ∀ ls, fillA sh ls (fun args h => fnK (ckOf es3) (okOf os3) sf3 kc3 args h (findRes aout3 0) none) none = g3 (i, ls)) (l := ain3) ⟨fun ls => by kernel_rfl, ⟨fun ls => by kernel_rfl, trivial⟩⟩)
end Go.Proofs.Ytmmhmccmbohmoaa.B
