/-
  Functions of this seat as functions of leaves, by program, and that the abstract machine answers as they do. Conditions: none.
-/
import Derived.Test.YtkbjemencmaloaaTab
import Derived.Test.YtkbjemencmaloaaSxW
import Derived.KernelRfl
namespace Go.Proofs.Ytkbjemencmaloaa
open Go Go.Sx
set_option maxRecDepth 100000
set_option linter.unusedVariables false
/-! function 26 -/
def es26 : List (FuncId × Ent) := []
theorem ck26 (n : Nat) : CallKOk (ckOf es26) (evF tab (n + 0)) :=
  ckOf_nil
def kc26 : KC := (.seq (.reg r26_0) (.seq (.block 0 (.seq (.reg r26_1) (.cond (.t 7) (.seq (.reg r26_2) (.seq (.kill [0, 1, 2, 7, 17]) .ret)) (.seq (.reg r26_3) (.cond (.t 17) (.seq (.reg r26_4) (.seq (.kill [0, 1, 2, 7, 17]) .ret)) .skip))))) (.seq (.reg r26_5) (.seq (.kill [0, 1, 2, 7, 17]) .ret))))
def ain26 : List APat := [⟨[(.int .i64), (.int .i64), (.int .i64)], []⟩]
def aout26 : List RPat := [⟨(.int .i64), [], []⟩]
def g26_0 (a0 : Int) (a1 : Int) (a2 : Int) : Option (Nat × List Leaf) :=
  cond (Decidable.decide (a0 < a1)) (some (0, [.i (a1)])) (cond (Decidable.decide (a2 < a1)) (some (0, [.i (a1)])) (cond (Decidable.decide (a2 < a0)) (some (0, [.i (a2)])) (some (0, [.i (a0)]))))
def g26 (s : Nat × List Leaf) : Option (Nat × List Leaf) := match s.1 with
  | 0 => let r := s.2; asI r (fun a0 r => asI r (fun a1 r => asI r (fun a2 r => asE r (g26_0 a0 a1 a2) none) none) none) none
  | _ => none
def ent26 : Ent := ⟨ain26, aout26, g26⟩
def os26 : List Orc := []
theorem ok26 (n : Nat) : EntSound (evF tab (n + 1)) 26 ent26 :=
  fn_sound (n := n + 0) (ck26 n) (OK := okOf os26) (body := kc26) (show OrcsOk (okOf os26) (evF tab (n + 0)) kc26 from ⟨trivial, ⟨⟨trivial, ⟨⟨trivial, ⟨trivial, trivial⟩⟩, ⟨trivial, ⟨⟨trivial, ⟨trivial, trivial⟩⟩, trivial⟩⟩⟩⟩, ⟨trivial, ⟨trivial, trivial⟩⟩⟩⟩) t26 (by kernel_rfl)
    (all_ins (Q := fun i sh => ∀ ls, fillA sh ls (fun args h => fnK (ckOf es26) (okOf os26) sf26 kc26 args h (findRes aout26 0) none) none = g26 (i, ls)) (l := ain26) ⟨fun ls => by kernel_rfl, trivial⟩)
/-! function 22 -/
def es22 : List (FuncId × Ent) := [(26, ent26)]
theorem ck22 (n : Nat) : CallKOk (ckOf es22) (evF tab (n + 1)) :=
  ckOf_cons (ok26 (n + 0)) (ckOf_nil)
def kc22 : KC := (.seq (.reg r22_0) (.seq (.reg r22_1) (.seq (.kill [0]) .ret)))
def ain22 : List APat := [⟨[(.int .i64)], []⟩]
def aout22 : List RPat := [⟨(.int .i64), [], []⟩]
def g22_0 (a0 : Int) : Option (Nat × List Leaf) :=
  altK (g26 (0, [.i (a0), .i ((-32768 : Int)), .i ((32767 : Int))])) [fun r => asI r (fun x1 r => asE r (some (0, [.i (x1)])) none) none] none
def g22 (s : Nat × List Leaf) : Option (Nat × List Leaf) := match s.1 with
  | 0 => let r := s.2; asI r (fun a0 r => asE r (g22_0 a0) none) none
  | _ => none
def ent22 : Ent := ⟨ain22, aout22, g22⟩
def os22 : List Orc := []
theorem ok22 (n : Nat) : EntSound (evF tab (n + 2)) 22 ent22 :=
  fn_sound (n := n + 1) (ck22 n) (OK := okOf os22) (body := kc22) (show OrcsOk (okOf os22) (evF tab (n + 1)) kc22 from ⟨trivial, ⟨trivial, ⟨trivial, trivial⟩⟩⟩) t22 (by kernel_rfl)
    (all_ins (Q := fun i sh => ∀ ls, fillA sh ls (fun args h => fnK (ckOf es22) (okOf os22) sf22 kc22 args h (findRes aout22 0) none) none = g22 (i, ls)) (l := ain22) ⟨fun ls => by kernel_rfl, trivial⟩)
/-! function 25 -/
def es25 : List (FuncId × Ent) := []
theorem ck25 (n : Nat) : CallKOk (ckOf es25) (evF tab (n + 0)) :=
  ckOf_nil
def kc25 : KC := (.seq (.reg r25_0) (.seq (.block 0 (.seq (.reg r25_1) (.cond (.t 5) (.seq (.reg r25_2) (.seq (.kill [0, 1, 5, 12]) .ret)) (.seq (.reg r25_3) (.cond (.t 12) (.seq (.reg r25_4) (.seq (.kill [0, 1, 5, 12]) .ret)) .skip))))) (.seq (.reg r25_5) (.seq (.kill [0, 1, 5, 12]) .ret))))
def ain25 : List APat := [⟨[(.int .i64), (.int .i64)], []⟩]
def aout25 : List RPat := [⟨(.int .i64), [], []⟩]
def g25_0 (a0 : Int) (a1 : Int) : Option (Nat × List Leaf) :=
  cond (Decidable.decide (a1 < (0 : Int))) (some (0, [.i ((0 : Int))])) (cond (Decidable.decide ((62 : Int) < a1)) (some (0, [.i ((0 : Int))])) (cond (Decidable.decide (a1 = (0 : Int))) (some (0, [.i (a0)])) (if a1 < (0 : Int) then none else if Go.IntKind.wrap Go.IntKind.i64 (a1 - (1 : Int)) < (0 : Int) then none else some (0, [.i (Go.IntKind.wrap Go.IntKind.i64 (Go.Sx.shrI Go.IntKind.i64 a0 a1 + Go.Sx.bAnd Go.IntKind.i64 (Go.Sx.shrI Go.IntKind.i64 a0 (Go.IntKind.wrap Go.IntKind.i64 (a1 - (1 : Int)))) (1 : Int)))]))))
def g25 (s : Nat × List Leaf) : Option (Nat × List Leaf) := match s.1 with
  | 0 => let r := s.2; asI r (fun a0 r => asI r (fun a1 r => asE r (g25_0 a0 a1) none) none) none
  | _ => none
def ent25 : Ent := ⟨ain25, aout25, g25⟩
def os25 : List Orc := []
theorem ok25 (n : Nat) : EntSound (evF tab (n + 1)) 25 ent25 :=
  fn_sound (n := n + 0) (ck25 n) (OK := okOf os25) (body := kc25) (show OrcsOk (okOf os25) (evF tab (n + 0)) kc25 from ⟨trivial, ⟨⟨trivial, ⟨⟨trivial, ⟨trivial, trivial⟩⟩, ⟨trivial, ⟨⟨trivial, ⟨trivial, trivial⟩⟩, trivial⟩⟩⟩⟩, ⟨trivial, ⟨trivial, trivial⟩⟩⟩⟩) t25 (by kernel_rfl)
    (all_ins (Q := fun i sh => ∀ ls, fillA sh ls (fun args h => fnK (ckOf es25) (okOf os25) sf25 kc25 args h (findRes aout25 0) none) none = g25 (i, ls)) (l := ain25) ⟨fun ls => by kernel_rfl, trivial⟩)
/-! function 27 -/
def es27 : List (FuncId × Ent) := []
theorem ck27 (n : Nat) : CallKOk (ckOf es27) (evF tab (n + 0)) :=
  ckOf_nil
def kc27 : KC := (.seq (.reg r27_0) (.seq (.seq (.reg r27_1) (.cond (.t 7) (.seq (.reg r27_2) (.seq (.kill [0, 1, 5, 7, 14]) .ret)) .skip)) (.seq (.reg r27_3) (.seq (.seq (.reg r27_4) (.cond (.t 14) (.reg r27_5) .skip)) (.seq (.reg r27_6) (.seq (.kill [0, 1, 5, 7, 14]) .ret))))))
def ain27 : List APat := [⟨[(.int .i64), (.int .i64)], []⟩]
def aout27 : List RPat := [⟨(.int .i64), [], []⟩]
def g27_0 (a0 : Int) (a1 : Int) : Option (Nat × List Leaf) :=
  cond (Decidable.decide (a1 < (1 : Int))) (some (0, [.i ((0 : Int))])) (if a1 = (0 : Int) then none else if a1 = (0 : Int) then none else cond (Decidable.decide (Int.tmod a0 a1 < (0 : Int))) (some (0, [.i (Go.IntKind.wrap Go.IntKind.i64 (Go.IntKind.wrap Go.IntKind.i64 (Int.tdiv a0 a1) - (1 : Int)))])) (some (0, [.i (Go.IntKind.wrap Go.IntKind.i64 (Int.tdiv a0 a1))])))
def g27 (s : Nat × List Leaf) : Option (Nat × List Leaf) := match s.1 with
  | 0 => let r := s.2; asI r (fun a0 r => asI r (fun a1 r => asE r (g27_0 a0 a1) none) none) none
  | _ => none
def ent27 : Ent := ⟨ain27, aout27, g27⟩
def os27 : List Orc := []
theorem ok27 (n : Nat) : EntSound (evF tab (n + 1)) 27 ent27 :=
  fn_sound (n := n + 0) (ck27 n) (OK := okOf os27) (body := kc27) (show OrcsOk (okOf os27) (evF tab (n + 0)) kc27 from ⟨trivial, ⟨⟨trivial, ⟨⟨trivial, ⟨trivial, trivial⟩⟩, trivial⟩⟩, ⟨trivial, ⟨⟨trivial, ⟨trivial, trivial⟩⟩, ⟨trivial, ⟨trivial, trivial⟩⟩⟩⟩⟩⟩) t27 (by kernel_rfl)
    (all_ins (Q := fun i sh => ∀ ls, fillA sh ls (fun args h => fnK (ckOf es27) (okOf os27) sf27 kc27 args h (findRes aout27 0) none) none = g27 (i, ls)) (l := ain27) ⟨fun ls => by kernel_rfl, trivial⟩)
/-! function 6 -/
def es6 : List (FuncId × Ent) := []
theorem ck6 (n : Nat) : CallKOk (ckOf es6) (evF tab (n + 0)) :=
  ckOf_nil
def kc6 : KC := (.seq (.reg r6_0) (.seq (.seq (.reg r6_1) (.cond (.t 19) (.seq (.reg r6_2) (.seq (.kill [0, 1, 5, 19, 29]) .ret)) .skip)) (.seq (.reg r6_3) (.seq (.seq (.reg r6_4) (.cond (.t 29) (.seq (.reg r6_5) (.seq (.kill [0, 1, 5, 19, 29]) .ret)) .skip)) (.seq (.reg r6_6) (.seq (.kill [0, 1, 5, 19, 29]) .ret))))))
def ain6 : List APat := [⟨[(.int .i64), (.int .i64)], []⟩]
def aout6 : List RPat := [⟨(.int .i64), [], []⟩]
def g6_0 (a0 : Int) (a1 : Int) : Option (Nat × List Leaf) :=
  cond (Decidable.decide (a0 < (1 : Int))) (some (0, [.i ((0 : Int))])) (cond (Decidable.decide ((192000 : Int) < a0)) (some (0, [.i ((0 : Int))])) (cond (Decidable.decide (a1 < (1 : Int))) (some (0, [.i ((0 : Int))])) (cond (Decidable.decide ((192000 : Int) < a1)) (some (0, [.i ((0 : Int))])) (if a1 = (0 : Int) then none else cond (Decidable.decide (Go.IntKind.wrap Go.IntKind.i64 (Int.tdiv (Go.Sx.shlI Go.IntKind.i64 a0 (32 : Int)) a1) < (1 : Int))) (some (0, [.i ((0 : Int))])) (cond (Decidable.decide ((34359738368 : Int) < Go.IntKind.wrap Go.IntKind.i64 (Int.tdiv (Go.Sx.shlI Go.IntKind.i64 a0 (32 : Int)) a1))) (some (0, [.i ((0 : Int))])) (some (0, [.i (Go.IntKind.wrap Go.IntKind.i64 (Int.tdiv (Go.Sx.shlI Go.IntKind.i64 a0 (32 : Int)) a1))])))))))
def g6 (s : Nat × List Leaf) : Option (Nat × List Leaf) := match s.1 with
  | 0 => let r := s.2; asI r (fun a0 r => asI r (fun a1 r => asE r (g6_0 a0 a1) none) none) none
  | _ => none
def ent6 : Ent := ⟨ain6, aout6, g6⟩
def os6 : List Orc := []
theorem ok6 (n : Nat) : EntSound (evF tab (n + 1)) 6 ent6 :=
  fn_sound (n := n + 0) (ck6 n) (OK := okOf os6) (body := kc6) (show OrcsOk (okOf os6) (evF tab (n + 0)) kc6 from ⟨trivial, ⟨⟨trivial, ⟨⟨trivial, ⟨trivial, trivial⟩⟩, trivial⟩⟩, ⟨trivial, ⟨⟨trivial, ⟨⟨trivial, ⟨trivial, trivial⟩⟩, trivial⟩⟩, ⟨trivial, ⟨trivial, trivial⟩⟩⟩⟩⟩⟩) t6 (by kernel_rfl)
    (all_ins (Q := fun i sh => ∀ ls, fillA sh ls (fun args h => fnK (ckOf es6) (okOf os6) sf6 kc6 args h (findRes aout6 0) none) none = g6 (i, ls)) (l := ain6) ⟨fun ls => by kernel_rfl, trivial⟩)
/-! function 8 -/
def es8 : List (FuncId × Ent) := []
theorem ck8 (n : Nat) : CallKOk (ckOf es8) (evF tab (n + 0)) :=
  ckOf_nil
def kc8 : KC := (.seq (.reg r8_0) (.seq (.seq (.reg r8_1) (.cond (.t 18) (.seq (.reg r8_2) (.seq (.kill [0, 1, 18]) .ret)) .skip)) (.seq (.reg r8_3) (.seq (.kill [0, 1, 18]) .ret))))
def ain8 : List APat := [⟨[(.int .i64), (.int .i64)], []⟩]
def aout8 : List RPat := [⟨(.int .i64), [], []⟩]
def g8_0 (a0 : Int) (a1 : Int) : Option (Nat × List Leaf) :=
  cond (Decidable.decide (a0 < (1 : Int))) (some (0, [.i ((0 : Int))])) (cond (Decidable.decide ((1048576 : Int) < a0)) (some (0, [.i ((0 : Int))])) (cond (Decidable.decide (a1 < (1 : Int))) (some (0, [.i ((0 : Int))])) (cond (Decidable.decide ((34359738368 : Int) < a1)) (some (0, [.i ((0 : Int))])) (if a1 = (0 : Int) then none else some (0, [.i (Go.IntKind.wrap Go.IntKind.i64 (Go.IntKind.wrap Go.IntKind.i64 (Int.tdiv (Go.IntKind.wrap Go.IntKind.i64 (Go.Sx.shlI Go.IntKind.i64 a0 (32 : Int) - (1 : Int))) a1) + (1 : Int)))])))))
def g8 (s : Nat × List Leaf) : Option (Nat × List Leaf) := match s.1 with
  | 0 => let r := s.2; asI r (fun a0 r => asI r (fun a1 r => asE r (g8_0 a0 a1) none) none) none
  | _ => none
def ent8 : Ent := ⟨ain8, aout8, g8⟩
def os8 : List Orc := []
theorem ok8 (n : Nat) : EntSound (evF tab (n + 1)) 8 ent8 :=
  fn_sound (n := n + 0) (ck8 n) (OK := okOf os8) (body := kc8) (show OrcsOk (okOf os8) (evF tab (n + 0)) kc8 from ⟨trivial, ⟨⟨trivial, ⟨⟨trivial, ⟨trivial, trivial⟩⟩, trivial⟩⟩, ⟨trivial, ⟨trivial, trivial⟩⟩⟩⟩) t8 (by kernel_rfl)
    (all_ins (Q := fun i sh => ∀ ls, fillA sh ls (fun args h => fnK (ckOf es8) (okOf os8) sf8 kc8 args h (findRes aout8 0) none) none = g8 (i, ls)) (l := ain8) ⟨fun ls => by kernel_rfl, trivial⟩)
/-! function 7 -/
def es7 : List (FuncId × Ent) := []
theorem ck7 (n : Nat) : CallKOk (ckOf es7) (evF tab (n + 0)) :=
  ckOf_nil
def kc7 : KC := (.seq (.reg r7_0) (.seq (.seq (.reg r7_1) (.cond (.t 19) (.seq (.reg r7_2) (.seq (.kill [0, 1, 5, 19, 29]) .ret)) .skip)) (.seq (.reg r7_3) (.seq (.seq (.reg r7_4) (.cond (.t 29) (.seq (.reg r7_5) (.seq (.kill [0, 1, 5, 19, 29]) .ret)) .skip)) (.seq (.reg r7_6) (.seq (.kill [0, 1, 5, 19, 29]) .ret))))))
def ain7 : List APat := [⟨[(.int .i64), (.int .i64)], []⟩]
def aout7 : List RPat := [⟨(.int .i64), [], []⟩]
def g7_0 (a0 : Int) (a1 : Int) : Option (Nat × List Leaf) :=
  cond (Decidable.decide (a0 < (1 : Int))) (some (0, [.i ((0 : Int))])) (cond (Decidable.decide ((192000 : Int) < a0)) (some (0, [.i ((0 : Int))])) (cond (Decidable.decide (a1 < (1 : Int))) (some (0, [.i ((0 : Int))])) (cond (Decidable.decide ((192000 : Int) < a1)) (some (0, [.i ((0 : Int))])) (if a1 = (0 : Int) then none else cond (Decidable.decide (Go.IntKind.wrap Go.IntKind.i64 (Int.tdiv (Go.IntKind.wrap Go.IntKind.i64 (a0 * (4294967296 : Int))) a1) < (1 : Int))) (some (0, [.i ((0 : Int))])) (cond (Decidable.decide ((34359738368 : Int) < Go.IntKind.wrap Go.IntKind.i64 (Int.tdiv (Go.IntKind.wrap Go.IntKind.i64 (a0 * (4294967296 : Int))) a1))) (some (0, [.i ((0 : Int))])) (some (0, [.i (Go.IntKind.wrap Go.IntKind.i64 (Int.tdiv (Go.IntKind.wrap Go.IntKind.i64 (a0 * (4294967296 : Int))) a1))])))))))
def g7 (s : Nat × List Leaf) : Option (Nat × List Leaf) := match s.1 with
  | 0 => let r := s.2; asI r (fun a0 r => asI r (fun a1 r => asE r (g7_0 a0 a1) none) none) none
  | _ => none
def ent7 : Ent := ⟨ain7, aout7, g7⟩
def os7 : List Orc := []
theorem ok7 (n : Nat) : EntSound (evF tab (n + 1)) 7 ent7 :=
  fn_sound (n := n + 0) (ck7 n) (OK := okOf os7) (body := kc7) (show OrcsOk (okOf os7) (evF tab (n + 0)) kc7 from ⟨trivial, ⟨⟨trivial, ⟨⟨trivial, ⟨trivial, trivial⟩⟩, trivial⟩⟩, ⟨trivial, ⟨⟨trivial, ⟨⟨trivial, ⟨trivial, trivial⟩⟩, trivial⟩⟩, ⟨trivial, ⟨trivial, trivial⟩⟩⟩⟩⟩⟩) t7 (by kernel_rfl)
    (all_ins (Q := fun i sh => ∀ ls, fillA sh ls (fun args h => fnK (ckOf es7) (okOf os7) sf7 kc7 args h (findRes aout7 0) none) none = g7 (i, ls)) (l := ain7) ⟨fun ls => by kernel_rfl, trivial⟩)
/-! function 9 -/
def es9 : List (FuncId × Ent) := []
theorem ck9 (n : Nat) : CallKOk (ckOf es9) (evF tab (n + 0)) :=
  ckOf_nil
def kc9 : KC := (.seq (.reg r9_0) (.seq (.seq (.reg r9_1) (.cond (.t 20) (.seq (.reg r9_2) (.seq (.kill [0, 1, 5, 6, 20, 30]) .ret)) .skip)) (.seq (.reg r9_3) (.seq (.reg r9_4) (.seq (.seq (.reg r9_5) (.cond (.t 30) (.reg r9_6) .skip)) (.seq (.reg r9_7) (.seq (.kill [0, 1, 5, 6, 20, 30]) .ret)))))))
def ain9 : List APat := [⟨[(.int .i64), (.int .i64)], []⟩]
def aout9 : List RPat := [⟨(.int .i64), [], []⟩]
def g9_0 (a0 : Int) (a1 : Int) : Option (Nat × List Leaf) :=
  cond (Decidable.decide (a0 < (1 : Int))) (some (0, [.i ((0 : Int))])) (cond (Decidable.decide ((1048576 : Int) < a0)) (some (0, [.i ((0 : Int))])) (cond (Decidable.decide (a1 < (1 : Int))) (some (0, [.i ((0 : Int))])) (cond (Decidable.decide ((34359738368 : Int) < a1)) (some (0, [.i ((0 : Int))])) (if a1 = (0 : Int) then none else cond (Decidable.decide (Go.IntKind.wrap Go.IntKind.i64 (Go.IntKind.wrap Go.IntKind.i64 (Int.tdiv (Go.IntKind.wrap Go.IntKind.i64 (a0 * (4294967296 : Int))) a1) * a1) < Go.IntKind.wrap Go.IntKind.i64 (a0 * (4294967296 : Int)))) (some (0, [.i (Go.IntKind.wrap Go.IntKind.i64 (Go.IntKind.wrap Go.IntKind.i64 (Int.tdiv (Go.IntKind.wrap Go.IntKind.i64 (a0 * (4294967296 : Int))) a1) + (1 : Int)))])) (some (0, [.i (Go.IntKind.wrap Go.IntKind.i64 (Int.tdiv (Go.IntKind.wrap Go.IntKind.i64 (a0 * (4294967296 : Int))) a1))]))))))
def g9 (s : Nat × List Leaf) : Option (Nat × List Leaf) := match s.1 with
  | 0 => let r := s.2; asI r (fun a0 r => asI r (fun a1 r => asE r (g9_0 a0 a1) none) none) none
  | _ => none
def ent9 : Ent := ⟨ain9, aout9, g9⟩
def os9 : List Orc := []
theorem ok9 (n : Nat) : EntSound (evF tab (n + 1)) 9 ent9 :=
  fn_sound (n := n + 0) (ck9 n) (OK := okOf os9) (body := kc9) (show OrcsOk (okOf os9) (evF tab (n + 0)) kc9 from ⟨trivial, ⟨⟨trivial, ⟨⟨trivial, ⟨trivial, trivial⟩⟩, trivial⟩⟩, ⟨trivial, ⟨trivial, ⟨⟨trivial, ⟨trivial, trivial⟩⟩, ⟨trivial, ⟨trivial, trivial⟩⟩⟩⟩⟩⟩⟩) t9 (by kernel_rfl)
    (all_ins (Q := fun i sh => ∀ ls, fillA sh ls (fun args h => fnK (ckOf es9) (okOf os9) sf9 kc9 args h (findRes aout9 0) none) none = g9 (i, ls)) (l := ain9) ⟨fun ls => by kernel_rfl, trivial⟩)
/-! function 10: closed -/
theorem ok10 (n : Nat) : EntSound (evF tab (n + 20)) 10 awakeE := awake_sound (by kernel_rfl)
/-! function 3 -/
def es3 : List (FuncId × Ent) := [(6, ent6), (7, ent7), (8, ent8), (9, ent9), (10, awakeE)]
theorem ck3 (n : Nat) : CallKOk (ckOf es3) (evF tab (n + 20)) :=
  ckOf_cons (ok6 (n + 19)) (ckOf_cons (ok7 (n + 19)) (ckOf_cons (ok8 (n + 19)) (ckOf_cons (ok9 (n + 19)) (ckOf_cons (ok10 (n + 0)) (ckOf_nil)))))
def kc3 : KC := (.seq (.reg r3_0) (.seq (.reg r3_1) (.seq (.kill [0, 1, 2, 3]) .ret)))
def ain3 : List APat := [⟨[(.int .i64), (.int .i64), (.int .i64), (.int .i64)], []⟩]
def aout3 : List RPat := [⟨.bool, [], []⟩]
def g3_0 (a0 : Int) (a1 : Int) (a2 : Int) (a3 : Int) : Option (Nat × List Leaf) :=
  altK (g6 (0, [.i (a0), .i (a1)])) [fun r => asI r (fun x1 r => asE r (altK (g7 (0, [.i (a0), .i (a1)])) [fun r => asI r (fun x2 r => asE r (cond (Decidable.decide (x1 = x2)) (altK (g8 (0, [.i (a2), .i (a3)])) [fun r => asI r (fun x3 r => asE r (altK (g9 (0, [.i (a2), .i (a3)])) [fun r => asI r (fun x4 r => asE r (cond (Decidable.decide (x3 = x4)) (altK (awakeL (0, [])) [fun r => asB r (fun x5 r => asE r (some (0, [.b (x5)])) none) none] none) (some (0, [.b (Bool.false)]))) none) none] none) none) none] none) (some (0, [.b (Bool.false)]))) none) none] none) none) none] none
def g3 (s : Nat × List Leaf) : Option (Nat × List Leaf) := match s.1 with
  | 0 => let r := s.2; asI r (fun a0 r => asI r (fun a1 r => asI r (fun a2 r => asI r (fun a3 r => asE r (g3_0 a0 a1 a2 a3) none) none) none) none) none
  | _ => none
def ent3 : Ent := ⟨ain3, aout3, g3⟩
def os3 : List Orc := []
theorem ok3 (n : Nat) : EntSound (evF tab (n + 21)) 3 ent3 :=
  fn_sound (n := n + 20) (ck3 n) (OK := okOf os3) (body := kc3) (show OrcsOk (okOf os3) (evF tab (n + 20)) kc3 from ⟨trivial, ⟨trivial, ⟨trivial, trivial⟩⟩⟩) t3 (by kernel_rfl)
    (all_ins (Q := fun i sh => ∀ ls, fillA sh ls (fun args h => fnK (ckOf es3) (okOf os3) sf3 kc3 args h (findRes aout3 0) none) none = g3 (i, ls)) (l := ain3) ⟨fun ls => by kernel_rfl, trivial⟩)
end Go.Proofs.Ytkbjemencmaloaa
