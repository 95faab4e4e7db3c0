/-
  Functions of this seat as functions of leaves, by program, and that the abstract machine answers as they do. Conditions: none.
-/
import Derived.Test.YtgjmlenokdggoaaDecP
import Derived.KernelRfl
namespace Go.Proofs.Ytgjmlenokdggoaa.Q1
open Go Go.Sx
set_option maxRecDepth 100000
set_option linter.unusedVariables false
/-! function 12 -/
def es12 : List (FuncId × Ent × List (List Bool)) := [(5, P.ent5, [])]
theorem ck12 (n : Nat) : CallKOk (ckOfM es12) (evF tab (n + 2)) :=
  ckOfM_cons (P.ok5 (n + 0)) (ckOfM_nil)
def kc12_0 : KC := (.seq (.seq (.reg r12_3) (.seq (.cond (.t 12) .skip (.seq (.kill [0, 2, 3, 6, 7, 8, 9, 10, 11, 12, 21]) (.exit 0))) (.seq (.block 1 (.seq (.reg r12_4) (.seq (.reg r12_5) (.seq (.seq (.reg r12_6) (.cond (.t 21) (.seq (.reg r12_7) (.seq (.kill [0, 4, 6, 7, 8, 9, 10, 11, 12, 21]) .ret)) .skip)) (.reg r12_8))))) (.reg r12_9)))) (.seq (.kill [0, 2, 3, 6, 7, 8, 12, 21]) .tidy))
def in12_0 : List SPat := [⟨[(0, .unk), (2, .unk), (3, .unk), (4, .nils), (6, .unk), (7, .unk), (8, .unk), (9, (.ro (.ints .i64) (.c 1) 5)), (10, (.cint .i64 (1))), (11, (.cint .i64 (0))), (12, .unk), (21, .unk)], [], [], 0⟩, ⟨[(0, .unk), (2, .unk), (3, .unk), (4, (.slice 0 (.c 0) (.c 1) 1)), (6, .unk), (7, .unk), (8, .unk), (9, (.ro (.ints .i64) (.c 1) 5)), (10, (.cint .i64 (1))), (11, (.cint .i64 (1))), (12, .unk), (21, .unk)], [(true, (.agg [(.ptr 1 (.c 0))])), (true, (.ints .i64))], [], 0⟩]
def out12_0 : List (SX × SPat) := [(.ret, ⟨[(0, .unk), (2, .nils), (3, (.cint .i64 (1))), (4, .unk), (6, .unk), (7, .unk), (8, .unk), (9, .unk), (10, .unk), (11, .unk), (12, .unk), (21, .unk)], [(true, (.ints .i64))], [], 0⟩), ((.exit 0), ⟨[(0, .unk), (2, .unk), (3, .unk), (4, (.slice 0 (.c 0) (.c 1) 1)), (6, .unk), (7, .unk), (8, .unk), (9, .unk), (10, .unk), (11, .unk), (12, .unk), (21, .unk)], [(true, (.agg [(.ptr 1 (.c 0))])), (true, (.ints .i64))], [], 0⟩)]
def f12_0_0 (t9 : List Int) : Option (Nat × List Leaf) :=
  if (5 : Nat) ≤ List.length t9 then if List.length (List.take (5 : Nat) t9) = (5 : Nat) then if (0 : Nat) + List.length (List.take (5 : Nat) t9) ≤ (5 : Nat) then if (5 : Nat) ≤ List.length (List.take (5 : Nat) t9 ++ List.drop ((0 : Nat) + List.length (List.take (5 : Nat) t9)) [(0 : Int), (0 : Int), (0 : Int), (0 : Int), (0 : Int)]) then altK (P.g5 (0, [.l (List.take (5 : Nat) (List.take (5 : Nat) t9 ++ List.drop ((0 : Nat) + List.length (List.take (5 : Nat) t9)) [(0 : Int), (0 : Int), (0 : Int), (0 : Int), (0 : Int)]))])) [fun r => asL r (fun x1h0 r => asE r (some (1, [.l (t9), .l (x1h0)])) none) none, fun r => asE r (some (2, [.l (List.take (5 : Nat) t9 ++ List.drop ((0 : Nat) + List.length (List.take (5 : Nat) t9)) [(0 : Int), (0 : Int), (0 : Int), (0 : Int), (0 : Int)])])) none] none else none else none else none else none
def f12_0_1 (t9 : List Int) (h1 : List Int) : Option (Nat × List Leaf) :=
  some (3, [.l (h1)])
def f12_0 (s : Nat × List Leaf) : Option (Nat × List Leaf) := match s.1 with
  | 0 => let r := s.2; asL r (fun t9 r => asE r (f12_0_0 t9) none) none
  | 1 => let r := s.2; asL r (fun t9 r => asL r (fun h1 r => asE r (f12_0_1 t9 h1) none) none) none
  | _ => none
def L12_0 (s : Nat × List Leaf) : Option (Nat × List Leaf) := loopL 2 f12_0 s
def orc12_0 : Orc := ⟨in12_0, out12_0, L12_0⟩
def os12_0 : List (Orc × List (List Bool)) := []
theorem snd12_0 (n : Nat) : OrcSound (evF tab (n + 2)) (.loop l12_10) orc12_0 :=
  loop_sound (b := kc12_0) (OK := okOfM os12_0) (ck12 n) (show OrcsOk (okOfM os12_0) (evF tab (n + 2)) kc12_0 from ⟨⟨trivial, ⟨⟨trivial, ⟨trivial, trivial⟩⟩, ⟨⟨trivial, ⟨trivial, ⟨⟨trivial, ⟨⟨trivial, ⟨trivial, trivial⟩⟩, trivial⟩⟩, trivial⟩⟩⟩, trivial⟩⟩⟩, ⟨trivial, trivial⟩⟩) (ins := in12_0) (outs := out12_0) (f := f12_0) (by kernel_rfl)
    (all_ins (Q := fun i sh => ∀ ls, fillS sh ls (fun st => evK (ckOfM es12) (okOfM os12_0) kc12_0 st (findOut (in12_0.map (SX.normal, ·) ++ out12_0) 0) none) none = f12_0 (i, ls)) (l := in12_0) ⟨fun ls => by kernel_rfl, ⟨fun ls => by kernel_rfl, trivial⟩⟩)
def kc12 : KC := (.seq (.reg r12_0) (.seq (.reg r12_1) (.seq (.seq (.reg r12_2) (.block 0 (.seq (.kill [0, 2, 3, 6, 7, 8, 12, 21]) (.orc 0 (.loop l12_10))))) (.seq (.reg r12_11) (.seq (.kill [0, 4, 6, 7, 8, 9, 10, 11, 12, 21]) .ret)))))
def ain12 : List APat := [⟨[(.ro (.ints .i64) (.c 1) 5)], []⟩]
def aout12 : List RPat := [⟨(.tup [.nils, (.cint .i64 (1))]), [], []⟩, ⟨(.tup [(.slice 0 (.c 0) (.c 1) 1), (.cint .i64 (0))]), [(true, (.agg [(.ptr 1 (.c 0))])), (true, (.ints .i64))], []⟩]
def g12_0 (a0 : List Int) : Option (Nat × List Leaf) :=
  altK (L12_0 (0, [.l (a0)])) [fun r => asL r (fun x13h0 r => asE r (some (0, [])) none) none, fun r => asL r (fun x26h1 r => asE r (some (1, [.l (x26h1)])) none) none] none
def g12 (s : Nat × List Leaf) : Option (Nat × List Leaf) := match s.1 with
  | 0 => let r := s.2; asL r (fun a0 r => asE r (g12_0 a0) none) none
  | _ => none
def ent12 : Ent := ⟨ain12, aout12, g12⟩
def os12 : List (Orc × List (List Bool)) := [(orc12_0, [[true, true], [false, true]])]
theorem ok12 (n : Nat) : EntSound (evF tab (n + 3)) 12 ent12 :=
  fn_sound (n := n + 2) (ck12 n) (OK := okOfM os12) (body := kc12) (show OrcsOk (okOfM os12) (evF tab (n + 2)) kc12 from ⟨trivial, ⟨trivial, ⟨⟨trivial, ⟨trivial, (okOfM_ok (os := os12) (i := 0) (o := orc12_0) rfl (snd12_0 n))⟩⟩, ⟨trivial, ⟨trivial, trivial⟩⟩⟩⟩⟩) t12 (by kernel_rfl)
    (all_ins (Q := fun i sh => ∀ ls, fillA sh ls (fun args h => fnK (ckOfM es12) (okOfM os12) sf12 kc12 args h (findRes aout12 0) none) none = g12 (i, ls)) (l := ain12) ⟨fun ls => by kernel_rfl, trivial⟩)
/-! function 13 -/
def es13 : List (FuncId × Ent × List (List Bool)) := [(10, P.ent10, [[true, false], [false, true]])]
theorem ck13 (n : Nat) : CallKOk (ckOfM es13) (evF tab (n + 3)) :=
  ckOfM_cons (P.ok10 (n + 0)) (ckOfM_nil)
def kc13_0 : KC := (.seq (.seq (.reg r13_2) (.seq (.cond (.t 10) .skip (.seq (.kill [0, 4, 6, 7, 8, 9, 10]) (.exit 0))) (.seq (.block 1 (.seq (.reg r13_3) (.reg r13_4))) (.reg r13_5)))) (.seq (.kill [0, 4, 6, 10]) .tidy))
def in13_0 : List SPat := [⟨[(0, .unk), (1, (.int .i64)), (4, .unk), (6, .unk), (7, (.slice 0 (.c 0) (.c 1) 1)), (8, (.cint .i64 (1))), (9, (.cint .i64 (0))), (10, .unk)], [(true, (.agg [(.ptr 1 (.c 0))])), (true, (.ints .i64))], [], 2⟩, ⟨[(0, .unk), (1, (.int .i64)), (4, .unk), (6, .unk), (7, (.slice 0 (.c 0) (.c 1) 1)), (8, (.cint .i64 (1))), (9, (.cint .i64 (1))), (10, .unk)], [(true, (.agg [(.ptr 1 (.c 0))])), (true, (.ints .i64))], [], 2⟩]
def out13_0 : List (SX × SPat) := [((.exit 0), ⟨[(0, .unk), (1, (.int .i64)), (4, .unk), (6, .unk), (7, .unk), (8, .unk), (9, .unk), (10, .unk)], [(true, (.agg [(.ptr 1 (.c 0))])), (true, (.ints .i64))], [], 2⟩)]
def f13_0_0 (t1 : Int) (h1 : List Int) : Option (Nat × List Leaf) :=
  altK (P.g10 (0, [.i (t1), .l (h1)])) [fun r => asI r (fun x1 r => asL r (fun x1h0 r => asE r (some (1, [.i (x1), .l (x1h0)])) none) none) none, fun r => none] none
def f13_0_1 (t1 : Int) (h1 : List Int) : Option (Nat × List Leaf) :=
  some (2, [.i (t1), .l (h1)])
def f13_0 (s : Nat × List Leaf) : Option (Nat × List Leaf) := match s.1 with
  | 0 => let r := s.2; asI r (fun t1 r => asL r (fun h1 r => asE r (f13_0_0 t1 h1) none) none) none
  | 1 => let r := s.2; asI r (fun t1 r => asL r (fun h1 r => asE r (f13_0_1 t1 h1) none) none) none
  | _ => none
def L13_0 (s : Nat × List Leaf) : Option (Nat × List Leaf) := loopL 2 f13_0 s
def orc13_0 : Orc := ⟨in13_0, out13_0, L13_0⟩
def os13_0 : List (Orc × List (List Bool)) := []
theorem snd13_0 (n : Nat) : OrcSound (evF tab (n + 3)) (.loop l13_6) orc13_0 :=
  loop_sound (b := kc13_0) (OK := okOfM os13_0) (ck13 n) (show OrcsOk (okOfM os13_0) (evF tab (n + 3)) kc13_0 from ⟨⟨trivial, ⟨⟨trivial, ⟨trivial, trivial⟩⟩, ⟨⟨trivial, trivial⟩, trivial⟩⟩⟩, ⟨trivial, trivial⟩⟩) (ins := in13_0) (outs := out13_0) (f := f13_0) (by kernel_rfl)
    (all_ins (Q := fun i sh => ∀ ls, fillS sh ls (fun st => evK (ckOfM es13) (okOfM os13_0) kc13_0 st (findOut (in13_0.map (SX.normal, ·) ++ out13_0) 0) none) none = f13_0 (i, ls)) (l := in13_0) ⟨fun ls => by kernel_rfl, ⟨fun ls => by kernel_rfl, trivial⟩⟩)
def kc13 : KC := (.seq (.reg r13_0) (.seq (.seq (.reg r13_1) (.block 0 (.seq (.kill [0, 4, 6, 10]) (.orc 0 (.loop l13_6))))) (.seq (.reg r13_7) (.seq (.kill [0, 1, 6, 7, 8, 9, 10]) .ret))))
def ain13 : List APat := [⟨[(.slice 0 (.c 0) (.c 1) 1), (.int .i64)], [(true, (.agg [(.ptr 1 (.c 0))])), (true, (.ints .i64))]⟩]
def aout13 : List RPat := [⟨(.int .i64), [(true, (.agg [(.ptr 1 (.c 0))])), (true, (.ints .i64))], []⟩]
def g13_0 (a1 : Int) (h1 : List Int) : Option (Nat × List Leaf) :=
  altK (L13_0 (0, [.i (a1), .l (h1)])) [fun r => asI r (fun x2 r => asL r (fun x9h1 r => asE r (some (0, [.i (x2), .l (x9h1)])) none) none) none] none
def g13 (s : Nat × List Leaf) : Option (Nat × List Leaf) := match s.1 with
  | 0 => let r := s.2; asI r (fun a1 r => asL r (fun h1 r => asE r (g13_0 a1 h1) none) none) none
  | _ => none
def ent13 : Ent := ⟨ain13, aout13, g13⟩
def os13 : List (Orc × List (List Bool)) := [(orc13_0, [[true], [true]])]
theorem ok13 (n : Nat) : EntSound (evF tab (n + 4)) 13 ent13 :=
  fn_sound (n := n + 3) (ck13 n) (OK := okOfM os13) (body := kc13) (show OrcsOk (okOfM os13) (evF tab (n + 3)) kc13 from ⟨trivial, ⟨⟨trivial, ⟨trivial, (okOfM_ok (os := os13) (i := 0) (o := orc13_0) rfl (snd13_0 n))⟩⟩, ⟨trivial, ⟨trivial, trivial⟩⟩⟩⟩) t13 (by kernel_rfl)
    (all_ins (Q := fun i sh => ∀ ls, fillA sh ls (fun args h => fnK (ckOfM es13) (okOfM os13) sf13 kc13 args h (findRes aout13 0) none) none = g13 (i, ls)) (l := ain13) ⟨fun ls => by kernel_rfl, trivial⟩)
/-! function 8: closed -/
theorem ok8 (n : Nat) : EntSound (evF tab (n + 20)) 8 awakeE := awake_sound (by kernel_rfl)
/-! function 4 -/
def es4 : List (FuncId × Ent × List (List Bool)) := [(12, ent12, [[true, true]]), (7, P.ent7, []), (8, awakeE, []), (9, P.ent9, []), (10, P.ent10, [[true, false], [false, true]]), (11, P.ent11, []), (13, ent13, [[true]])]
theorem ck4 (n : Nat) : CallKOk (ckOfM es4) (evF tab (n + 20)) :=
  ckOfM_cons (ok12 (n + 17)) (ckOfM_cons (P.ok7 (n + 19)) (ckOfM_cons (ok8 (n + 0)) (ckOfM_cons (P.ok9 (n + 19)) (ckOfM_cons (P.ok10 (n + 17)) (ckOfM_cons (P.ok11 (n + 18)) (ckOfM_cons (ok13 (n + 16)) (ckOfM_nil)))))))
def kc4_0 : KC := (.seq (.seq (.seq (.reg r4_6) (.cond (.t 26) .skip (.seq (.kill [4, 8, 9, 10, 11, 12, 15, 26, 34, 69, 77, 87, 103]) (.exit 0)))) (.seq (.block 1 (.seq (.seq (.reg r4_7) (.cond (.t 34) (.seq (.reg r4_8) (.seq (.kill [0, 1, 5, 6, 7, 8, 9, 10, 11, 12, 15, 26, 34, 69, 77, 87, 103]) .ret)) .skip)) (.reg r4_9))) (.reg r4_10))) (.seq (.kill [4, 9, 10, 11, 12, 15, 26, 34, 69, 77, 87, 103]) .tidy))
def in4_0 : List SPat := [⟨[(0, (.ro (.ints .i64) (.c 1) 5)), (1, (.ro (.ints .i64) .h 1)), (4, .unk), (5, .nils), (6, (.cint .i64 (1))), (7, .nils), (8, (.cint .i64 (0))), (9, .unk), (10, .unk), (11, .unk), (12, .unk), (15, .unk), (26, .unk), (34, .unk), (69, .unk), (77, .unk), (87, .unk), (103, .unk)], [], [], 0⟩, ⟨[(0, (.ro (.ints .i64) (.c 1) 5)), (1, (.ro (.ints .i64) .h 1)), (4, .unk), (5, (.slice 0 (.c 0) (.c 1) 1)), (6, (.cint .i64 (0))), (7, .nils), (8, (.cint .i64 (0))), (9, .unk), (10, .unk), (11, .unk), (12, .unk), (15, .unk), (26, .unk), (34, .unk), (69, .unk), (77, .unk), (87, .unk), (103, .unk)], [(true, (.agg [(.ptr 1 (.c 0))])), (true, (.ints .i64))], [], 0⟩, ⟨[(0, (.ro (.ints .i64) (.c 1) 5)), (1, (.ro (.ints .i64) .h 1)), (4, .unk), (5, .nils), (6, (.cint .i64 (1))), (7, (.slice 0 (.c 0) (.c 1) 1)), (8, (.cint .i64 (1))), (9, .unk), (10, .unk), (11, .unk), (12, .unk), (15, .unk), (26, .unk), (34, .unk), (69, .unk), (77, .unk), (87, .unk), (103, .unk)], [(true, (.agg [(.ptr 1 (.c 0))])), (true, (.ints .i64))], [], 0⟩, ⟨[(0, (.ro (.ints .i64) (.c 1) 5)), (1, (.ro (.ints .i64) .h 1)), (4, .unk), (5, (.slice 0 (.c 0) (.c 1) 1)), (6, (.cint .i64 (0))), (7, (.slice 2 (.c 0) (.c 1) 1)), (8, (.cint .i64 (1))), (9, .unk), (10, .unk), (11, .unk), (12, .unk), (15, .unk), (26, .unk), (34, .unk), (69, .unk), (77, .unk), (87, .unk), (103, .unk)], [(true, (.agg [(.ptr 1 (.c 0))])), (true, (.ints .i64)), (true, (.agg [(.ptr 3 (.c 0))])), (true, (.ints .i64))], [], 0⟩]
def out4_0 : List (SX × SPat) := [(.ret, ⟨[(0, .unk), (1, .unk), (4, .bool), (5, .unk), (6, .unk), (7, .unk), (8, .unk), (9, .unk), (10, .unk), (11, .unk), (12, .unk), (15, .unk), (26, .unk), (34, .unk), (69, .unk), (77, .unk), (87, .unk), (103, .unk)], [], [], 0⟩), (.ret, ⟨[(0, .unk), (1, .unk), (4, (.cbool false)), (5, .unk), (6, .unk), (7, .unk), (8, .unk), (9, .unk), (10, .unk), (11, .unk), (12, .unk), (15, .unk), (26, .unk), (34, .unk), (69, .unk), (77, .unk), (87, .unk), (103, .unk)], [(true, (.agg [(.ptr 1 (.c 0))])), (true, (.ints .i64))], [], 0⟩), ((.exit 0), ⟨[(0, (.ro (.ints .i64) (.c 1) 5)), (1, (.ro (.ints .i64) .h 1)), (4, .unk), (5, .nils), (6, (.cint .i64 (1))), (7, (.slice 0 (.c 0) (.c 1) 1)), (8, .unk), (9, .unk), (10, .unk), (11, .unk), (12, .unk), (15, .unk), (26, .unk), (34, .unk), (69, .unk), (77, .unk), (87, .unk), (103, .unk)], [(true, (.agg [(.ptr 1 (.c 0))])), (true, (.ints .i64))], [], 0⟩), ((.exit 0), ⟨[(0, (.ro (.ints .i64) (.c 1) 5)), (1, (.ro (.ints .i64) .h 1)), (4, .unk), (5, (.slice 0 (.c 0) (.c 1) 1)), (6, (.cint .i64 (0))), (7, (.slice 2 (.c 0) (.c 1) 1)), (8, .unk), (9, .unk), (10, .unk), (11, .unk), (12, .unk), (15, .unk), (26, .unk), (34, .unk), (69, .unk), (77, .unk), (87, .unk), (103, .unk)], [(true, (.agg [(.ptr 1 (.c 0))])), (true, (.ints .i64)), (true, (.agg [(.ptr 3 (.c 0))])), (true, (.ints .i64))], [], 0⟩)]
def f4_0_0 (t0 : List Int) (t1n : Nat) (t1 : List Int) : Option (Nat × List Leaf) :=
  if (5 : Nat) ≤ List.length t0 then altK (P.g7 (0, [.l (List.take (5 : Nat) t0)])) [fun r => asB r (fun x1 r => asE r (cond (!x1) (altK (awakeL (0, [])) [fun r => asB r (fun x2 r => asE r (some (4, [.b (x2)])) none) none] none) (if (5 : Nat) ≤ List.length t0 then if List.length (List.take (5 : Nat) t0) = (5 : Nat) then if (0 : Nat) + List.length (List.take (5 : Nat) t0) ≤ (9 : Nat) then some (2, [.l (t0), .n (t1n), .l (t1), .l (List.take (5 : Nat) t0 ++ List.drop ((0 : Nat) + List.length (List.take (5 : Nat) t0)) [(0 : Int), (0 : Int), (0 : Int), (0 : Int), (0 : Int), (0 : Int), (0 : Int), (0 : Int), (0 : Int)])]) else none else none else none)) none) none] none else none
def f4_0_1 (t0 : List Int) (t1n : Nat) (t1 : List Int) (h1 : List Int) : Option (Nat × List Leaf) :=
  if (5 : Nat) ≤ List.length t0 then altK (P.g7 (0, [.l (List.take (5 : Nat) t0)])) [fun r => asB r (fun x1 r => asE r (cond (!x1) (some (5, [.l (h1)])) (if (5 : Nat) ≤ List.length t0 then if List.length (List.take (5 : Nat) t0) = (5 : Nat) then if (0 : Nat) + List.length (List.take (5 : Nat) t0) ≤ (9 : Nat) then some (3, [.l (t0), .n (t1n), .l (t1), .l (h1), .l (List.take (5 : Nat) t0 ++ List.drop ((0 : Nat) + List.length (List.take (5 : Nat) t0)) [(0 : Int), (0 : Int), (0 : Int), (0 : Int), (0 : Int), (0 : Int), (0 : Int), (0 : Int), (0 : Int)])]) else none else none else none)) none) none] none else none
def f4_0_2 (t0 : List Int) (t1n : Nat) (t1 : List Int) (h1 : List Int) : Option (Nat × List Leaf) :=
  some (6, [.l (t0), .n (t1n), .l (t1), .l (h1)])
def f4_0_3 (t0 : List Int) (t1n : Nat) (t1 : List Int) (h1 : List Int) (h3 : List Int) : Option (Nat × List Leaf) :=
  some (7, [.l (t0), .n (t1n), .l (t1), .l (h1), .l (h3)])
def f4_0 (s : Nat × List Leaf) : Option (Nat × List Leaf) := match s.1 with
  | 0 => let r := s.2; asL r (fun t0 r => asN r (fun t1n r => asL r (fun t1 r => asE r (f4_0_0 t0 t1n t1) none) none) none) none
  | 1 => let r := s.2; asL r (fun t0 r => asN r (fun t1n r => asL r (fun t1 r => asL r (fun h1 r => asE r (f4_0_1 t0 t1n t1 h1) none) none) none) none) none
  | 2 => let r := s.2; asL r (fun t0 r => asN r (fun t1n r => asL r (fun t1 r => asL r (fun h1 r => asE r (f4_0_2 t0 t1n t1 h1) none) none) none) none) none
  | 3 => let r := s.2; asL r (fun t0 r => asN r (fun t1n r => asL r (fun t1 r => asL r (fun h1 r => asL r (fun h3 r => asE r (f4_0_3 t0 t1n t1 h1 h3) none) none) none) none) none) none
  | _ => none
def L4_0 (s : Nat × List Leaf) : Option (Nat × List Leaf) := loopL 4 f4_0 s
def orc4_0 : Orc := ⟨in4_0, out4_0, L4_0⟩
def os4_0 : List (Orc × List (List Bool)) := []
theorem snd4_0 (n : Nat) : OrcSound (evF tab (n + 20)) (.loop l4_11) orc4_0 :=
  loop_sound (b := kc4_0) (OK := okOfM os4_0) (ck4 n) (show OrcsOk (okOfM os4_0) (evF tab (n + 20)) kc4_0 from ⟨⟨⟨trivial, ⟨trivial, ⟨trivial, trivial⟩⟩⟩, ⟨⟨⟨trivial, ⟨⟨trivial, ⟨trivial, trivial⟩⟩, trivial⟩⟩, trivial⟩, trivial⟩⟩, ⟨trivial, trivial⟩⟩) (ins := in4_0) (outs := out4_0) (f := f4_0) (by kernel_rfl)
    (all_ins (Q := fun i sh => ∀ ls, fillS sh ls (fun st => evK (ckOfM es4) (okOfM os4_0) kc4_0 st (findOut (in4_0.map (SX.normal, ·) ++ out4_0) 0) none) none = f4_0 (i, ls)) (l := in4_0) ⟨fun ls => by kernel_rfl, ⟨fun ls => by kernel_rfl, ⟨fun ls => by kernel_rfl, ⟨fun ls => by kernel_rfl, trivial⟩⟩⟩⟩)
def kc4_1 : KC := (.seq (.seq (.seq (.reg r4_20) (.cond (.t 87) .skip (.seq (.kill [0, 4, 6, 8, 9, 12, 15, 26, 34, 69, 77, 87, 103]) (.exit 4)))) (.seq (.block 5 (.reg r4_21)) (.reg r4_22))) (.seq (.kill [0, 4, 6, 8, 9, 15, 26, 34, 69, 77, 87, 103]) .tidy))
def in4_1 : List SPat := [⟨[(0, .unk), (1, (.ro (.ints .i64) .h 1)), (4, .unk), (5, (.slice 0 (.c 0) (.c 1) 1)), (6, .unk), (7, (.slice 2 (.c 0) (.c 1) 1)), (8, .unk), (9, .unk), (10, (.int .i64)), (11, (.int .i64)), (12, (.cint .i64 (0))), (15, .unk), (26, .unk), (34, .unk), (69, .unk), (77, .unk), (87, .unk), (103, .unk)], [(true, (.agg [(.ptr 1 (.c 0))])), (true, (.ints .i64)), (true, (.agg [(.ptr 3 (.c 0))])), (true, (.ints .i64))], [], 0⟩, ⟨[(0, .unk), (1, (.ro (.ints .i64) .h 1)), (4, .unk), (5, (.slice 0 (.c 0) (.c 1) 1)), (6, .unk), (7, (.slice 2 (.c 0) (.c 1) 1)), (8, .unk), (9, .unk), (10, (.int .i64)), (11, (.int .i64)), (12, (.cint .i64 (1))), (15, .unk), (26, .unk), (34, .unk), (69, .unk), (77, .unk), (87, .unk), (103, .unk)], [(true, (.agg [(.ptr 1 (.c 0))])), (true, (.ints .i64)), (true, (.agg [(.ptr 3 (.c 0))])), (true, (.ints .i64))], [], 0⟩]
def out4_1 : List (SX × SPat) := [((.exit 4), ⟨[(0, .unk), (1, (.ro (.ints .i64) .h 1)), (4, .unk), (5, (.slice 0 (.c 0) (.c 1) 1)), (6, .unk), (7, (.slice 2 (.c 0) (.c 1) 1)), (8, .unk), (9, .unk), (10, (.int .i64)), (11, (.int .i64)), (12, .unk), (15, .unk), (26, .unk), (34, .unk), (69, .unk), (77, .unk), (87, .unk), (103, .unk)], [(true, (.agg [(.ptr 1 (.c 0))])), (true, (.ints .i64)), (true, (.agg [(.ptr 3 (.c 0))])), (true, (.ints .i64))], [], 0⟩)]
def f4_1_0 (t1n : Nat) (t1 : List Int) (t10 : Int) (t11 : Int) (h1 : List Int) (h3 : List Int) : Option (Nat × List Leaf) :=
  altK (P.g11 (0, [.i (t11), .l (h3)])) [fun r => asI r (fun x1 r => asL r (fun x1h0 r => asE r (some (1, [.n (t1n), .l (t1), .i (t10), .i (x1), .l (h1), .l (x1h0)])) none) none) none] none
def f4_1_1 (t1n : Nat) (t1 : List Int) (t10 : Int) (t11 : Int) (h1 : List Int) (h3 : List Int) : Option (Nat × List Leaf) :=
  some (2, [.n (t1n), .l (t1), .i (t10), .i (t11), .l (h1), .l (h3)])
def f4_1 (s : Nat × List Leaf) : Option (Nat × List Leaf) := match s.1 with
  | 0 => let r := s.2; asN r (fun t1n r => asL r (fun t1 r => asI r (fun t10 r => asI r (fun t11 r => asL r (fun h1 r => asL r (fun h3 r => asE r (f4_1_0 t1n t1 t10 t11 h1 h3) none) none) none) none) none) none) none
  | 1 => let r := s.2; asN r (fun t1n r => asL r (fun t1 r => asI r (fun t10 r => asI r (fun t11 r => asL r (fun h1 r => asL r (fun h3 r => asE r (f4_1_1 t1n t1 t10 t11 h1 h3) none) none) none) none) none) none) none
  | _ => none
def L4_1 (s : Nat × List Leaf) : Option (Nat × List Leaf) := loopL 2 f4_1 s
def orc4_1 : Orc := ⟨in4_1, out4_1, L4_1⟩
def os4_1 : List (Orc × List (List Bool)) := [(orc4_0, [[true, false, true, false], [false, true, false, true], [false, false, true, false], [false, false, false, true]])]
theorem snd4_1 (n : Nat) : OrcSound (evF tab (n + 20)) (.loop l4_23) orc4_1 :=
  loop_sound (b := kc4_1) (OK := okOfM os4_1) (ck4 n) (show OrcsOk (okOfM os4_1) (evF tab (n + 20)) kc4_1 from ⟨⟨⟨trivial, ⟨trivial, ⟨trivial, trivial⟩⟩⟩, ⟨trivial, trivial⟩⟩, ⟨trivial, trivial⟩⟩) (ins := in4_1) (outs := out4_1) (f := f4_1) (by kernel_rfl)
    (all_ins (Q := fun i sh => ∀ ls, fillS sh ls (fun st => evK (ckOfM es4) (okOfM os4_1) kc4_1 st (findOut (in4_1.map (SX.normal, ·) ++ out4_1) 0) none) none = f4_1 (i, ls)) (l := in4_1) ⟨fun ls => by kernel_rfl, ⟨fun ls => by kernel_rfl, trivial⟩⟩)
def kc4_2 : KC := (.seq (.seq (.seq (.reg r4_17) (.cond (.t 77) .skip (.seq (.kill [0, 1, 4, 5, 6, 7, 8, 9, 10, 11, 12, 15, 26, 34, 69, 77, 87, 103]) (.exit 2)))) (.seq (.block 3 (.seq (.reg r4_18) (.seq (.seq (.reg r4_19) (.block 4 (.seq (.kill [0, 4, 6, 8, 9, 15, 26, 34, 69, 77, 87, 103]) (.orc 1 (.loop l4_23))))) (.seq (.reg r4_24) (.cond (.t 103) (.seq (.reg r4_25) (.seq (.kill [0, 1, 5, 6, 7, 8, 9, 10, 11, 12, 15, 26, 34, 69, 77, 87, 103]) .ret)) .skip))))) (.reg r4_26))) (.seq (.kill [0, 4, 6, 8, 9, 11, 12, 15, 26, 34, 69, 77, 87, 103]) .tidy))
def in4_2 : List SPat := [⟨[(0, .unk), (1, (.ro (.ints .i64) .h 1)), (4, .unk), (5, (.slice 0 (.c 0) (.c 1) 1)), (6, .unk), (7, (.slice 2 (.c 0) (.c 1) 1)), (8, .unk), (9, .unk), (10, (.int .i64)), (11, .unk), (12, .unk), (15, .unk), (26, .unk), (34, .unk), (69, .unk), (77, .unk), (87, .unk), (103, .unk)], [(true, (.agg [(.ptr 1 (.c 0))])), (true, (.ints .i64)), (true, (.agg [(.ptr 3 (.c 0))])), (true, (.ints .i64))], [], 0⟩]
def out4_2 : List (SX × SPat) := [((.exit 2), ⟨[(0, .unk), (1, .unk), (4, .unk), (5, .unk), (6, .unk), (7, .unk), (8, .unk), (9, .unk), (10, .unk), (11, .unk), (12, .unk), (15, .unk), (26, .unk), (34, .unk), (69, .unk), (77, .unk), (87, .unk), (103, .unk)], [(true, (.agg [(.ptr 1 (.c 0))])), (true, (.ints .i64)), (true, (.agg [(.ptr 3 (.c 0))])), (true, (.ints .i64))], [], 0⟩), (.ret, ⟨[(0, .unk), (1, .unk), (4, (.cbool false)), (5, .unk), (6, .unk), (7, .unk), (8, .unk), (9, .unk), (10, .unk), (11, .unk), (12, .unk), (15, .unk), (26, .unk), (34, .unk), (69, .unk), (77, .unk), (87, .unk), (103, .unk)], [(true, (.agg [(.ptr 1 (.c 0))])), (true, (.ints .i64)), (true, (.agg [(.ptr 3 (.c 0))])), (true, (.ints .i64))], [], 0⟩)]
def f4_2_0 (t1n : Nat) (t1 : List Int) (t10 : Int) (h1 : List Int) (h3 : List Int) : Option (Nat × List Leaf) :=
  cond (Decidable.decide (t10 < (↑t1n : Int))) (cond (Decidable.decide (t10 < (60 : Int))) (if (0 : Int) ≤ t10 ∧ t10 < (↑t1n : Int) then optK (t1[Int.toNat t10]?) (fun x1 => altK (L4_1 (0, [.n (t1n), .l (t1), .i (t10), .i (x1), .l (h1), .l (h3)])) [fun r => asN r (fun x3n r => asL r (fun x3 r => asI r (fun x10 r => asI r (fun x11 r => asL r (fun x20h1 r => asL r (fun x20h3 r => asE r (if (0 : Int) ≤ x10 ∧ x10 < (↑x3n : Int) then optK (x3[Int.toNat x10]?) (fun x21 => altK (g13 (0, [.i (x21), .l (x20h1)])) [fun r => asI r (fun x22 r => asL r (fun x22h1 r => asE r (cond (Decidable.decide (x22 ≠ x11)) (some (2, [.l (x22h1), .l (x20h3)])) (some (0, [.n (x3n), .l (x3), .i (Go.IntKind.wrap Go.IntKind.i64 (x10 + (1 : Int))), .l (x22h1), .l (x20h3)]))) none) none) none] none) (none) else none) none) none) none) none) none) none) none] none) (none) else none) (some (1, [.l (h1), .l (h3)]))) (some (1, [.l (h1), .l (h3)]))
def f4_2 (s : Nat × List Leaf) : Option (Nat × List Leaf) := match s.1 with
  | 0 => let r := s.2; asN r (fun t1n r => asL r (fun t1 r => asI r (fun t10 r => asL r (fun h1 r => asL r (fun h3 r => asE r (f4_2_0 t1n t1 t10 h1 h3) none) none) none) none) none) none
  | _ => none
def L4_2 (s : Nat × List Leaf) : Option (Nat × List Leaf) := loopL 1 f4_2 s
def orc4_2 : Orc := ⟨in4_2, out4_2, L4_2⟩
def os4_2 : List (Orc × List (List Bool)) := [(orc4_0, [[true, false, true, false], [false, true, false, true], [false, false, true, false], [false, false, false, true]]), (orc4_1, [[true], [true]])]
theorem snd4_2 (n : Nat) : OrcSound (evF tab (n + 20)) (.loop l4_27) orc4_2 :=
  loop_sound (b := kc4_2) (OK := okOfM os4_2) (ck4 n) (show OrcsOk (okOfM os4_2) (evF tab (n + 20)) kc4_2 from ⟨⟨⟨trivial, ⟨trivial, ⟨trivial, trivial⟩⟩⟩, ⟨⟨trivial, ⟨⟨trivial, ⟨trivial, (okOfM_ok (os := os4_2) (i := 1) (o := orc4_1) rfl (snd4_1 n))⟩⟩, ⟨trivial, ⟨⟨trivial, ⟨trivial, trivial⟩⟩, trivial⟩⟩⟩⟩, trivial⟩⟩, ⟨trivial, trivial⟩⟩) (ins := in4_2) (outs := out4_2) (f := f4_2) (by kernel_rfl)
    (all_ins (Q := fun i sh => ∀ ls, fillS sh ls (fun st => evK (ckOfM es4) (okOfM os4_2) kc4_2 st (findOut (in4_2.map (SX.normal, ·) ++ out4_2) 0) none) none = f4_2 (i, ls)) (l := in4_2) ⟨fun ls => by kernel_rfl, trivial⟩)
def kc4 : KC := (.seq (.reg r4_0) (.seq (.seq (.reg r4_1) (.cond (.t 15) (.reg r4_2) .skip)) (.seq (.reg r4_3) (.seq (.reg r4_4) (.seq (.seq (.reg r4_5) (.block 0 (.seq (.kill [4, 9, 10, 11, 12, 15, 26, 34, 69, 77, 87, 103]) (.orc 0 (.loop l4_11))))) (.seq (.reg r4_12) (.seq (.reg r4_13) (.seq (.seq (.reg r4_14) (.cond (.t 69) (.seq (.reg r4_15) (.seq (.kill [0, 1, 5, 6, 7, 8, 9, 10, 11, 12, 15, 26, 34, 69, 77, 87, 103]) .ret)) .skip)) (.seq (.seq (.reg r4_16) (.block 2 (.seq (.kill [0, 4, 6, 8, 9, 11, 12, 15, 26, 34, 69, 77, 87, 103]) (.orc 2 (.loop l4_27))))) (.seq (.reg r4_28) (.seq (.kill [0, 1, 5, 6, 7, 8, 9, 10, 11, 12, 15, 26, 34, 69, 77, 87, 103]) .ret)))))))))))
def ain4 : List APat := [⟨[(.ro (.ints .i64) (.c 1) 5), (.ro (.ints .i64) .h 1)], []⟩]
def aout4 : List RPat := [⟨.bool, [], []⟩]
def g4_0 (a0 : List Int) (a1n : Nat) (a1 : List Int) : Option (Nat × List Leaf) :=
  altK (g12 (0, [.l (a0)])) [fun r => asE r (altK (L4_0 (0, [.l (a0), .n (a1n), .l (a1)])) [fun r => asB r (fun x4 r => asE r (some (0, [.b (x4)])) none) none, fun r => none, fun r => asL r (fun x21 r => asN r (fun x22n r => asL r (fun x22 r => asL r (fun x39h1 r => asE r (altK (P.g9 (0, [])) [fun r => asE r (some (0, [.b (Bool.false)])) none] none) none) none) none) none) none, fun r => none] none) none, fun r => asL r (fun x41h1 r => asE r (altK (L4_0 (1, [.l (a0), .n (a1n), .l (a1), .l (x41h1)])) [fun r => none, fun r => asL r (fun x60h1 r => asE r (some (0, [.b (Bool.false)])) none) none, fun r => none, fun r => asL r (fun x61 r => asN r (fun x62n r => asL r (fun x62 r => asL r (fun x79h1 r => asL r (fun x79h3 r => asE r (altK (P.g9 (0, [])) [fun r => asE r (altK (P.g10 (1, [.i ((77777 : Int))])) [fun r => none, fun r => asI r (fun x81 r => asE r (cond (Decidable.decide (x81 ≠ (77777 : Int))) (some (0, [.b (Bool.false)])) (altK (L4_2 (0, [.n (x62n), .l (x62), .i ((0 : Int)), .l (x79h1), .l (x79h3)])) [fun r => asL r (fun x100h1 r => asL r (fun x100h3 r => asE r (altK (awakeL (0, [])) [fun r => asB r (fun x101 r => asE r (some (0, [.b (x101)])) none) none] none) none) none) none, fun r => asL r (fun x120h1 r => asL r (fun x120h3 r => asE r (some (0, [.b (Bool.false)])) none) none) none] none)) none) none] none) none] none) none) none) none) none) none) none] none) none) none] none
def g4 (s : Nat × List Leaf) : Option (Nat × List Leaf) := match s.1 with
  | 0 => let r := s.2; asL r (fun a0 r => asN r (fun a1n r => asL r (fun a1 r => asE r (g4_0 a0 a1n a1) none) none) none) none
  | _ => none
def ent4 : Ent := ⟨ain4, aout4, g4⟩
def os4 : List (Orc × List (List Bool)) := [(orc4_0, [[true, false, true, false], [false, true, false, true], [false, false, true, false], [false, false, false, true]]), (orc4_1, [[true], [true]]), (orc4_2, [[true, true]])]
theorem ok4 (n : Nat) : EntSound (evF tab (n + 21)) 4 ent4 :=
  fn_sound (n := n + 20) (ck4 n) (OK := okOfM os4) (body := kc4) (show OrcsOk (okOfM os4) (evF tab (n + 20)) kc4 from ⟨trivial, ⟨⟨trivial, ⟨trivial, trivial⟩⟩, ⟨trivial, ⟨trivial, ⟨⟨trivial, ⟨trivial, (okOfM_ok (os := os4) (i := 0) (o := orc4_0) rfl (snd4_0 n))⟩⟩, ⟨trivial, ⟨trivial, ⟨⟨trivial, ⟨⟨trivial, ⟨trivial, trivial⟩⟩, trivial⟩⟩, ⟨⟨trivial, ⟨trivial, (okOfM_ok (os := os4) (i := 2) (o := orc4_2) rfl (snd4_2 n))⟩⟩, ⟨trivial, ⟨trivial, trivial⟩⟩⟩⟩⟩⟩⟩⟩⟩⟩⟩) t4 (by kernel_rfl)
    (all_ins (Q := fun i sh => ∀ ls, fillA sh ls (fun args h => fnK (ckOfM es4) (okOfM os4) sf4 kc4 args h (findRes aout4 0) none) none = g4 (i, ls)) (l := ain4) ⟨fun ls => by kernel_rfl, trivial⟩)
end Go.Proofs.Ytgjmlenokdggoaa.Q1
