/-
  Functions of this seat as functions of leaves, by program, and that the abstract machine answers as they do. Conditions: none.
-/
import Derived.Test.YthofmhnbncopjaaTab
import Derived.Test.YthofmhnbncopjaaSxW
import Derived.KernelRfl
namespace Go.Proofs.Ythofmhnbncopjaa
open Go Go.Sx
set_option maxRecDepth 100000
set_option linter.unusedVariables false
/-! function 8 -/
def es8 : List (FuncId × Ent) := []
theorem ck8 (n : Nat) : CallKOk (ckOf es8) (evF tab (n + 0)) :=
  ckOf_nil
def kc8 : KC := (.seq (.reg r8_0) (.seq (.seq (.reg r8_1) (.cond (.t 6) (.reg r8_2) .skip)) (.seq (.reg r8_3) (.seq (.kill [0, 1, 6]) .ret))))
def ain8 : List APat := [⟨[(.agg [(.int .i64), (.int .i64), (.int .i64), (.int .i64), (.slice 0 (.c 0) .h 2), (.int .i64), (.int .i64), (.int .i64), (.int .i64), (.int .i64), (.int .i64), (.int .i64), (.int .i64), (.int .i64), (.int .i64), (.int .i64), (.int .i64), (.int .i64), (.int .i64), (.int .i64), (.int .i64), (.int .i64), (.int .i64), (.int .i64), (.int .i64), (.int .i64), (.int .i64), (.int .i64), (.int .i64)])], [(false, (.ints .i64))]⟩]
def aout8 : List RPat := [⟨(.agg [(.int .i64), (.int .i64), (.int .i64), (.int .i64), (.slice 0 (.c 0) .h 2), (.int .i64), (.int .i64), (.int .i64), (.int .i64), (.int .i64), (.int .i64), (.int .i64), (.int .i64), (.int .i64), (.int .i64), (.int .i64), (.int .i64), (.int .i64), (.int .i64), (.int .i64), (.int .i64), (.int .i64), (.int .i64), (.int .i64), (.int .i64), (.int .i64), (.int .i64), (.int .i64), (.int .i64)]), [(false, (.ints .i64))], []⟩]
def g8_0 (a0_0 : Int) (a0_1 : Int) (a0_2 : Int) (a0_3 : Int) (a0_4n : Nat) (a0_5 : Int) (a0_6 : Int) (a0_7 : Int) (a0_8 : Int) (a0_9 : Int) (a0_10 : Int) (a0_11 : Int) (a0_12 : Int) (a0_13 : Int) (a0_14 : Int) (a0_15 : Int) (a0_16 : Int) (a0_17 : Int) (a0_18 : Int) (a0_19 : Int) (a0_20 : Int) (a0_21 : Int) (a0_22 : Int) (a0_23 : Int) (a0_24 : Int) (a0_25 : Int) (a0_26 : Int) (a0_27 : Int) (a0_28 : Int) (h0 : List Int) : Option (Nat × List Leaf) :=
  cond (Decidable.decide ((5 : Int) < (↑a0_4n : Int))) (if (0 : Int) ≤ (5 : Int) ∧ (5 : Int) ≤ (↑a0_4n : Int) then some (0, [.i (a0_0), .i (a0_1), .i (a0_2), .i (a0_3), .n ((5 : Nat)), .i (a0_5), .i (a0_6), .i (a0_7), .i (a0_8), .i (a0_9), .i (a0_10), .i (a0_11), .i (a0_12), .i (a0_13), .i (a0_14), .i (a0_15), .i (a0_16), .i (a0_17), .i (a0_18), .i (a0_19), .i (a0_20), .i (a0_21), .i (a0_22), .i (a0_23), .i (a0_24), .i (a0_25), .i (a0_26), .i (a0_27), .i (a0_28), .l (h0)]) else none) (some (0, [.i (a0_0), .i (a0_1), .i (a0_2), .i (a0_3), .n (a0_4n), .i (a0_5), .i (a0_6), .i (a0_7), .i (a0_8), .i (a0_9), .i (a0_10), .i (a0_11), .i (a0_12), .i (a0_13), .i (a0_14), .i (a0_15), .i (a0_16), .i (a0_17), .i (a0_18), .i (a0_19), .i (a0_20), .i (a0_21), .i (a0_22), .i (a0_23), .i (a0_24), .i (a0_25), .i (a0_26), .i (a0_27), .i (a0_28), .l (h0)]))
def g8 (s : Nat × List Leaf) : Option (Nat × List Leaf) := match s.1 with
  | 0 => let r := s.2; asI r (fun a0_0 r => asI r (fun a0_1 r => asI r (fun a0_2 r => asI r (fun a0_3 r => asN r (fun a0_4n r => asI r (fun a0_5 r => asI r (fun a0_6 r => asI r (fun a0_7 r => asI r (fun a0_8 r => asI r (fun a0_9 r => asI r (fun a0_10 r => asI r (fun a0_11 r => asI r (fun a0_12 r => asI r (fun a0_13 r => asI r (fun a0_14 r => asI r (fun a0_15 r => asI r (fun a0_16 r => asI r (fun a0_17 r => asI r (fun a0_18 r => asI r (fun a0_19 r => asI r (fun a0_20 r => asI r (fun a0_21 r => asI r (fun a0_22 r => asI r (fun a0_23 r => asI r (fun a0_24 r => asI r (fun a0_25 r => asI r (fun a0_26 r => asI r (fun a0_27 r => asI r (fun a0_28 r => asL r (fun h0 r => asE r (g8_0 a0_0 a0_1 a0_2 a0_3 a0_4n a0_5 a0_6 a0_7 a0_8 a0_9 a0_10 a0_11 a0_12 a0_13 a0_14 a0_15 a0_16 a0_17 a0_18 a0_19 a0_20 a0_21 a0_22 a0_23 a0_24 a0_25 a0_26 a0_27 a0_28 h0) none) none) none) none) none) none) none) none) none) none) none) none) none) none) none) none) none) none) none) none) none) none) none) none) none) none) none) none) none) none) none
  | _ => none
def ent8 : Ent := ⟨ain8, aout8, g8⟩
def os8 : List Orc := []
theorem ok8 (n : Nat) : EntSound (evF tab (n + 1)) 8 ent8 :=
  fn_sound (n := n + 0) (ck8 n) (OK := okOf os8) (body := kc8) (show OrcsOk (okOf os8) (evF tab (n + 0)) kc8 from ⟨trivial, ⟨⟨trivial, ⟨trivial, trivial⟩⟩, ⟨trivial, ⟨trivial, trivial⟩⟩⟩⟩) t8 (by kernel_rfl)
    (all_ins (Q := fun i sh => ∀ ls, fillA sh ls (fun args h => fnK (ckOf es8) (okOf os8) sf8 kc8 args h (findRes aout8 0) none) none = g8 (i, ls)) (l := ain8) ⟨fun ls => by kernel_rfl, trivial⟩)
/-! function 6 -/
def es6 : List (FuncId × Ent) := []
theorem ck6 (n : Nat) : CallKOk (ckOf es6) (evF tab (n + 0)) :=
  ckOf_nil
def kc6 : KC := (.seq (.reg r6_0) (.cond (.t 3) (.reg r6_1) .skip))
def ain6 : List APat := [⟨[.nilp], []⟩]
def aout6 : List RPat := [⟨(.tup []), [], []⟩]
def g6_0  : Option (Nat × List Leaf) :=
  some (0, [])
def g6 (s : Nat × List Leaf) : Option (Nat × List Leaf) := match s.1 with
  | 0 => let r := s.2; asE r (g6_0) none
  | _ => none
def ent6 : Ent := ⟨ain6, aout6, g6⟩
def os6 : List Orc := []
theorem ok6 (n : Nat) : EntSound (evF tab (n + 1)) 6 ent6 :=
  fn_sound (n := n + 0) (ck6 n) (OK := okOf os6) (body := kc6) (show OrcsOk (okOf os6) (evF tab (n + 0)) kc6 from ⟨trivial, ⟨trivial, trivial⟩⟩) t6 (by kernel_rfl)
    (all_ins (Q := fun i sh => ∀ ls, fillA sh ls (fun args h => fnK (ckOf es6) (okOf os6) sf6 kc6 args h (findRes aout6 0) none) none = g6 (i, ls)) (l := ain6) ⟨fun ls => by kernel_rfl, trivial⟩)
/-! function 7 -/
def es7 : List (FuncId × Ent) := []
theorem ck7 (n : Nat) : CallKOk (ckOf es7) (evF tab (n + 0)) :=
  ckOf_nil
def kc7 : KC := (.seq (.reg r7_0) (.seq (.seq (.reg r7_1) (.cond (.t 6) (.seq (.reg r7_2) (.seq (.kill [0, 1, 3, 6]) .ret)) .skip)) (.seq (.reg r7_3) (.seq (.reg r7_4) (.seq (.kill [0, 1, 3, 6]) .ret)))))
def ain7 : List APat := [⟨[.nilp, (.agg [(.int .i64), (.int .i64), (.int .i64), (.int .i64), (.slice 0 (.c 0) .h 2), (.int .i64), (.int .i64), (.int .i64), (.int .i64), (.int .i64), (.int .i64), (.int .i64), (.int .i64), (.int .i64), (.int .i64), (.int .i64), (.int .i64), (.int .i64), (.int .i64), (.int .i64), (.int .i64), (.int .i64), (.int .i64), (.int .i64), (.int .i64), (.int .i64), (.int .i64), (.int .i64), (.int .i64)])], [(false, (.ints .i64))]⟩]
def aout7 : List RPat := [⟨(.ints .i64), [(false, (.ints .i64))], []⟩]
def g7_0 (a1_0 : Int) (a1_1 : Int) (a1_2 : Int) (a1_3 : Int) (a1_4n : Nat) (a1_5 : Int) (a1_6 : Int) (a1_7 : Int) (a1_8 : Int) (a1_9 : Int) (a1_10 : Int) (a1_11 : Int) (a1_12 : Int) (a1_13 : Int) (a1_14 : Int) (a1_15 : Int) (a1_16 : Int) (a1_17 : Int) (a1_18 : Int) (a1_19 : Int) (a1_20 : Int) (a1_21 : Int) (a1_22 : Int) (a1_23 : Int) (a1_24 : Int) (a1_25 : Int) (a1_26 : Int) (a1_27 : Int) (a1_28 : Int) (h0 : List Int) : Option (Nat × List Leaf) :=
  some (0, [.l ([(0 : Int), (0 : Int), (0 : Int), (0 : Int), (0 : Int), (0 : Int), (0 : Int), (0 : Int), (0 : Int), (0 : Int), (0 : Int), (0 : Int), (0 : Int), (0 : Int), (0 : Int), (0 : Int), (0 : Int), (0 : Int), (0 : Int), (0 : Int)]), .l (h0)])
def g7 (s : Nat × List Leaf) : Option (Nat × List Leaf) := match s.1 with
  | 0 => let r := s.2; asI r (fun a1_0 r => asI r (fun a1_1 r => asI r (fun a1_2 r => asI r (fun a1_3 r => asN r (fun a1_4n r => asI r (fun a1_5 r => asI r (fun a1_6 r => asI r (fun a1_7 r => asI r (fun a1_8 r => asI r (fun a1_9 r => asI r (fun a1_10 r => asI r (fun a1_11 r => asI r (fun a1_12 r => asI r (fun a1_13 r => asI r (fun a1_14 r => asI r (fun a1_15 r => asI r (fun a1_16 r => asI r (fun a1_17 r => asI r (fun a1_18 r => asI r (fun a1_19 r => asI r (fun a1_20 r => asI r (fun a1_21 r => asI r (fun a1_22 r => asI r (fun a1_23 r => asI r (fun a1_24 r => asI r (fun a1_25 r => asI r (fun a1_26 r => asI r (fun a1_27 r => asI r (fun a1_28 r => asL r (fun h0 r => asE r (g7_0 a1_0 a1_1 a1_2 a1_3 a1_4n a1_5 a1_6 a1_7 a1_8 a1_9 a1_10 a1_11 a1_12 a1_13 a1_14 a1_15 a1_16 a1_17 a1_18 a1_19 a1_20 a1_21 a1_22 a1_23 a1_24 a1_25 a1_26 a1_27 a1_28 h0) none) none) none) none) none) none) none) none) none) none) none) none) none) none) none) none) none) none) none) none) none) none) none) none) none) none) none) none) none) none) none
  | _ => none
def ent7 : Ent := ⟨ain7, aout7, g7⟩
def os7 : List Orc := []
theorem ok7 (n : Nat) : EntSound (evF tab (n + 1)) 7 ent7 :=
  fn_sound (n := n + 0) (ck7 n) (OK := okOf os7) (body := kc7) (show OrcsOk (okOf os7) (evF tab (n + 0)) kc7 from ⟨trivial, ⟨⟨trivial, ⟨⟨trivial, ⟨trivial, trivial⟩⟩, trivial⟩⟩, ⟨trivial, ⟨trivial, ⟨trivial, trivial⟩⟩⟩⟩⟩) t7 (by kernel_rfl)
    (all_ins (Q := fun i sh => ∀ ls, fillA sh ls (fun args h => fnK (ckOf es7) (okOf os7) sf7 kc7 args h (findRes aout7 0) none) none = g7 (i, ls)) (l := ain7) ⟨fun ls => by kernel_rfl, trivial⟩)
/-! function 9 -/
def es9 : List (FuncId × Ent) := []
theorem ck9 (n : Nat) : CallKOk (ckOf es9) (evF tab (n + 0)) :=
  ckOf_nil
def kc9_0 : KC := (.seq (.seq (.reg r9_8) (.seq (.cond (.t 26) .skip (.seq (.kill [0, 4, 6, 19, 25, 26]) (.exit 0))) (.seq (.block 1 (.seq (.reg r9_9) (.reg r9_10))) (.reg r9_11)))) (.kill [4, 6, 19, 26]))
def in9_0 : List SPat := []
def out9_0 : List (SX × SPat) := []
def f9_0 (s : Nat × List Leaf) : Option (Nat × List Leaf) := match s.1 with
  | _ => none
def L9_0 (s : Nat × List Leaf) : Option (Nat × List Leaf) := loopL 0 f9_0 s
def orc9_0 : Orc := ⟨in9_0, out9_0, L9_0⟩
def os9_0 : List Orc := []
theorem snd9_0 (n : Nat) : OrcSound (evF tab (n + 0)) (.loop l9_12) orc9_0 :=
  loop_sound (b := kc9_0) (OK := okOf os9_0) (ck9 n) (show OrcsOk (okOf os9_0) (evF tab (n + 0)) kc9_0 from ⟨⟨trivial, ⟨⟨trivial, ⟨trivial, trivial⟩⟩, ⟨⟨trivial, trivial⟩, trivial⟩⟩⟩, trivial⟩) (ins := in9_0) (outs := out9_0) (f := f9_0) (by kernel_rfl)
    (all_ins (Q := fun i sh => ∀ ls, fillS sh ls (fun st => evK (ckOf es9) (okOf os9_0) kc9_0 st (findOut (in9_0.map (SX.normal, ·) ++ out9_0) 0) none) none = f9_0 (i, ls)) (l := in9_0) trivial)
def kc9 : KC := (.seq (.reg r9_0) (.seq (.seq (.reg r9_1) (.cond (.t 6) (.seq (.reg r9_2) (.seq (.kill [0, 3, 4, 6, 19, 25, 26]) .ret)) .skip)) (.seq (.reg r9_3) (.seq (.seq (.reg r9_4) (.cond (.t 19) (.seq (.reg r9_5) (.seq (.kill [0, 3, 4, 6, 19, 25, 26]) .ret)) .skip)) (.seq (.reg r9_6) (.seq (.seq (.reg r9_7) (.block 0 (.seq (.kill [4, 6, 19, 26]) (.orc 0 (.loop l9_12))))) (.seq (.reg r9_13) (.seq (.kill [0, 3, 4, 6, 19, 25, 26]) .ret))))))))
def ain9 : List APat := [⟨[.nilp], []⟩]
def aout9 : List RPat := [⟨(.ints .i64), [], []⟩]
def g9_0  : Option (Nat × List Leaf) :=
  some (0, [.l ([(0 : Int), (0 : Int), (0 : Int), (0 : Int), (0 : Int), (0 : Int), (0 : Int), (0 : Int), (0 : Int), (0 : Int), (0 : Int), (0 : Int), (0 : Int), (0 : Int), (0 : Int), (0 : Int), (0 : Int), (0 : Int), (0 : Int), (0 : Int)])])
def g9 (s : Nat × List Leaf) : Option (Nat × List Leaf) := match s.1 with
  | 0 => let r := s.2; asE r (g9_0) none
  | _ => none
def ent9 : Ent := ⟨ain9, aout9, g9⟩
def os9 : List Orc := [orc9_0]
theorem ok9 (n : Nat) : EntSound (evF tab (n + 1)) 9 ent9 :=
  fn_sound (n := n + 0) (ck9 n) (OK := okOf os9) (body := kc9) (show OrcsOk (okOf os9) (evF tab (n + 0)) kc9 from ⟨trivial, ⟨⟨trivial, ⟨⟨trivial, ⟨trivial, trivial⟩⟩, trivial⟩⟩, ⟨trivial, ⟨⟨trivial, ⟨⟨trivial, ⟨trivial, trivial⟩⟩, trivial⟩⟩, ⟨trivial, ⟨⟨trivial, ⟨trivial, (okOf_ok (os := os9) (i := 0) (o := orc9_0) rfl (snd9_0 n))⟩⟩, ⟨trivial, ⟨trivial, trivial⟩⟩⟩⟩⟩⟩⟩⟩) t9 (by kernel_rfl)
    (all_ins (Q := fun i sh => ∀ ls, fillA sh ls (fun args h => fnK (ckOf es9) (okOf os9) sf9 kc9 args h (findRes aout9 0) none) none = g9 (i, ls)) (l := ain9) ⟨fun ls => by kernel_rfl, trivial⟩)
/-! function 10 -/
def es10 : List (FuncId × Ent) := []
theorem ck10 (n : Nat) : CallKOk (ckOf es10) (evF tab (n + 0)) :=
  ckOf_nil
def kc10 : KC := (.seq (.reg r10_0) (.seq (.seq (.reg r10_1) (.cond (.t 4) (.seq (.reg r10_2) (.seq (.kill [0, 4]) .ret)) .skip)) (.seq (.reg r10_3) (.seq (.kill [0, 4]) .ret))))
def ain10 : List APat := [⟨[.nilp], []⟩]
def aout10 : List RPat := [⟨(.int .i64), [], []⟩]
def g10_0  : Option (Nat × List Leaf) :=
  some (0, [.i ((0 : Int))])
def g10 (s : Nat × List Leaf) : Option (Nat × List Leaf) := match s.1 with
  | 0 => let r := s.2; asE r (g10_0) none
  | _ => none
def ent10 : Ent := ⟨ain10, aout10, g10⟩
def os10 : List Orc := []
theorem ok10 (n : Nat) : EntSound (evF tab (n + 1)) 10 ent10 :=
  fn_sound (n := n + 0) (ck10 n) (OK := okOf os10) (body := kc10) (show OrcsOk (okOf os10) (evF tab (n + 0)) kc10 from ⟨trivial, ⟨⟨trivial, ⟨⟨trivial, ⟨trivial, trivial⟩⟩, trivial⟩⟩, ⟨trivial, ⟨trivial, trivial⟩⟩⟩⟩) t10 (by kernel_rfl)
    (all_ins (Q := fun i sh => ∀ ls, fillA sh ls (fun args h => fnK (ckOf es10) (okOf os10) sf10 kc10 args h (findRes aout10 0) none) none = g10 (i, ls)) (l := ain10) ⟨fun ls => by kernel_rfl, trivial⟩)
/-! function 11: closed -/
theorem ok11 (n : Nat) : EntSound (evF tab (n + 20)) 11 awakeE := awake_sound (by kernel_rfl)
/-! function 3 -/
def es3 : List (FuncId × Ent) := [(6, ent6), (8, ent8), (7, ent7), (9, ent9), (10, ent10), (11, awakeE)]
theorem ck3 (n : Nat) : CallKOk (ckOf es3) (evF tab (n + 20)) :=
  ckOf_cons (ok6 (n + 19)) (ckOf_cons (ok8 (n + 19)) (ckOf_cons (ok7 (n + 19)) (ckOf_cons (ok9 (n + 19)) (ckOf_cons (ok10 (n + 19)) (ckOf_cons (ok11 (n + 0)) (ckOf_nil))))))
def kc3 : KC := (.seq (.reg r3_0) (.seq (.reg r3_1) (.seq (.reg r3_2) (.seq (.reg r3_3) (.seq (.kill [0, 1, 3]) .ret)))))
def ain3 : List APat := [⟨[(.agg [(.int .i64), (.int .i64), (.int .i64), (.int .i64), (.slice 0 (.c 0) .h 2), (.int .i64), (.int .i64), (.int .i64), (.int .i64), (.int .i64), (.int .i64), (.int .i64), (.int .i64), (.int .i64), (.int .i64), (.int .i64), (.int .i64), (.int .i64), (.int .i64), (.int .i64), (.int .i64), (.int .i64), (.int .i64), (.int .i64), (.int .i64), (.int .i64), (.int .i64), (.int .i64), (.int .i64)])], [(false, (.ints .i64))]⟩]
def aout3 : List RPat := [⟨.bool, [(false, (.ints .i64))], []⟩]
def g3_0 (a0_0 : Int) (a0_1 : Int) (a0_2 : Int) (a0_3 : Int) (a0_4n : Nat) (a0_5 : Int) (a0_6 : Int) (a0_7 : Int) (a0_8 : Int) (a0_9 : Int) (a0_10 : Int) (a0_11 : Int) (a0_12 : Int) (a0_13 : Int) (a0_14 : Int) (a0_15 : Int) (a0_16 : Int) (a0_17 : Int) (a0_18 : Int) (a0_19 : Int) (a0_20 : Int) (a0_21 : Int) (a0_22 : Int) (a0_23 : Int) (a0_24 : Int) (a0_25 : Int) (a0_26 : Int) (a0_27 : Int) (a0_28 : Int) (h0 : List Int) : Option (Nat × List Leaf) :=
  altK (g6 (0, [])) [fun r => asE r (altK (g8 (0, [.i (a0_0), .i (a0_1), .i (a0_2), .i (a0_3), .n (a0_4n), .i (a0_5), .i (a0_6), .i (a0_7), .i (a0_8), .i (a0_9), .i (a0_10), .i (a0_11), .i (a0_12), .i (a0_13), .i (a0_14), .i (a0_15), .i (a0_16), .i (a0_17), .i (a0_18), .i (a0_19), .i (a0_20), .i (a0_21), .i (a0_22), .i (a0_23), .i (a0_24), .i (a0_25), .i (a0_26), .i (a0_27), .i (a0_28), .l (h0)])) [fun r => asI r (fun x2_0 r => asI r (fun x2_1 r => asI r (fun x2_2 r => asI r (fun x2_3 r => asN r (fun x2_4n r => asI r (fun x2_5 r => asI r (fun x2_6 r => asI r (fun x2_7 r => asI r (fun x2_8 r => asI r (fun x2_9 r => asI r (fun x2_10 r => asI r (fun x2_11 r => asI r (fun x2_12 r => asI r (fun x2_13 r => asI r (fun x2_14 r => asI r (fun x2_15 r => asI r (fun x2_16 r => asI r (fun x2_17 r => asI r (fun x2_18 r => asI r (fun x2_19 r => asI r (fun x2_20 r => asI r (fun x2_21 r => asI r (fun x2_22 r => asI r (fun x2_23 r => asI r (fun x2_24 r => asI r (fun x2_25 r => asI r (fun x2_26 r => asI r (fun x2_27 r => asI r (fun x2_28 r => asL r (fun x2h0 r => asE r (altK (g7 (0, [.i (x2_0), .i (x2_1), .i (x2_2), .i (x2_3), .n (x2_4n), .i (x2_5), .i (x2_6), .i (x2_7), .i (x2_8), .i (x2_9), .i (x2_10), .i (x2_11), .i (x2_12), .i (x2_13), .i (x2_14), .i (x2_15), .i (x2_16), .i (x2_17), .i (x2_18), .i (x2_19), .i (x2_20), .i (x2_21), .i (x2_22), .i (x2_23), .i (x2_24), .i (x2_25), .i (x2_26), .i (x2_27), .i (x2_28), .l (x2h0)])) [fun r => asL r (fun x3 r => asL r (fun x3h0 r => asE r (if List.length x3 = (20 : Nat) then cond (Decidable.decide (x3 = [(0 : Int), (0 : Int), (0 : Int), (0 : Int), (0 : Int), (0 : Int), (0 : Int), (0 : Int), (0 : Int), (0 : Int), (0 : Int), (0 : Int), (0 : Int), (0 : Int), (0 : Int), (0 : Int), (0 : Int), (0 : Int), (0 : Int), (0 : Int)])) (altK (g9 (0, [])) [fun r => asL r (fun x4 r => asE r (if List.length x4 = (20 : Nat) then cond (Decidable.decide (x4 = [(0 : Int), (0 : Int), (0 : Int), (0 : Int), (0 : Int), (0 : Int), (0 : Int), (0 : Int), (0 : Int), (0 : Int), (0 : Int), (0 : Int), (0 : Int), (0 : Int), (0 : Int), (0 : Int), (0 : Int), (0 : Int), (0 : Int), (0 : Int)])) (altK (g10 (0, [])) [fun r => asI r (fun x5 r => asE r (cond (Decidable.decide (x5 = (0 : Int))) (altK (awakeL (0, [])) [fun r => asB r (fun x6 r => asE r (some (0, [.b (x6), .l (x3h0)])) none) none] none) (some (0, [.b (Bool.false), .l (x3h0)]))) none) none] none) (some (0, [.b (Bool.false), .l (x3h0)])) else none) none) none] none) (some (0, [.b (Bool.false), .l (x3h0)])) else none) none) none) none] none) none) none) none) none) none) none) none) none) none) none) none) none) none) none) none) none) none) none) none) none) none) none) none) none) none) none) none) none) none) none) none] none) none] none
def g3 (s : Nat × List Leaf) : Option (Nat × List Leaf) := match s.1 with
  | 0 => let r := s.2; asI r (fun a0_0 r => asI r (fun a0_1 r => asI r (fun a0_2 r => asI r (fun a0_3 r => asN r (fun a0_4n r => asI r (fun a0_5 r => asI r (fun a0_6 r => asI r (fun a0_7 r => asI r (fun a0_8 r => asI r (fun a0_9 r => asI r (fun a0_10 r => asI r (fun a0_11 r => asI r (fun a0_12 r => asI r (fun a0_13 r => asI r (fun a0_14 r => asI r (fun a0_15 r => asI r (fun a0_16 r => asI r (fun a0_17 r => asI r (fun a0_18 r => asI r (fun a0_19 r => asI r (fun a0_20 r => asI r (fun a0_21 r => asI r (fun a0_22 r => asI r (fun a0_23 r => asI r (fun a0_24 r => asI r (fun a0_25 r => asI r (fun a0_26 r => asI r (fun a0_27 r => asI r (fun a0_28 r => asL r (fun h0 r => asE r (g3_0 a0_0 a0_1 a0_2 a0_3 a0_4n a0_5 a0_6 a0_7 a0_8 a0_9 a0_10 a0_11 a0_12 a0_13 a0_14 a0_15 a0_16 a0_17 a0_18 a0_19 a0_20 a0_21 a0_22 a0_23 a0_24 a0_25 a0_26 a0_27 a0_28 h0) none) none) none) none) none) none) none) none) none) none) none) none) none) none) none) none) none) none) none) none) none) none) none) none) none) none) none) none) none) none) none
  | _ => none
def ent3 : Ent := ⟨ain3, aout3, g3⟩
def os3 : List Orc := []
theorem ok3 (n : Nat) : EntSound (evF tab (n + 21)) 3 ent3 :=
  fn_sound (n := n + 20) (ck3 n) (OK := okOf os3) (body := kc3) (show OrcsOk (okOf os3) (evF tab (n + 20)) kc3 from ⟨trivial, ⟨trivial, ⟨trivial, ⟨trivial, ⟨trivial, trivial⟩⟩⟩⟩⟩) t3 (by kernel_rfl)
    (all_ins (Q := fun i sh => ∀ ls, fillA sh ls (fun args h => fnK (ckOf es3) (okOf os3) sf3 kc3 args h (findRes aout3 0) none) none = g3 (i, ls)) (l := ain3) ⟨fun ls => by kernel_rfl, trivial⟩)
end Go.Proofs.Ythofmhnbncopjaa
