/-
  Functions of this seat as functions of leaves, by program, and that the abstract machine answers as they do. Conditions: none.
-/
import Derived.Test.YtgmlibigknnbmaaTab
import Derived.Test.YtgmlibigknnbmaaSxW
import Derived.KernelRfl
namespace Go.Proofs.Ytgmlibigknnbmaa
open Go Go.Sx
set_option maxRecDepth 100000
set_option linter.unusedVariables false
/-! function 20 -/
def es20 : List (FuncId × Ent) := []
theorem ck20 (n : Nat) : CallKOk (ckOf es20) (evF tab (n + 0)) :=
  ckOf_nil
def kc20 : KC := (.seq (.reg r20_0) (.seq (.seq (.reg r20_1) (.cond (.t 7) (.seq (.reg r20_2) (.seq (.kill [0, 1, 5, 7, 12]) .ret)) .skip)) (.seq (.reg r20_3) (.seq (.seq (.reg r20_4) (.cond (.t 12) (.reg r20_5) .skip)) (.seq (.reg r20_6) (.seq (.kill [0, 1, 5, 7, 12]) .ret))))))
def ain20 : List APat := [⟨[(.int .i64), (.int .i64)], []⟩]
def aout20 : List RPat := [⟨(.int .i64), [], []⟩]
def g20_0 (a0 : Int) (a1 : Int) : Option (Nat × List Leaf) :=
  cond (Decidable.decide (a1 < (1 : Int))) (some (0, [.i ((0 : Int))])) (if a1 = (0 : Int) then none else cond (Decidable.decide (Int.tmod a0 a1 < (0 : Int))) (some (0, [.i (Go.IntKind.wrap Go.IntKind.i64 (Int.tmod a0 a1 + a1))])) (some (0, [.i (Int.tmod a0 a1)])))
def g20 (s : Nat × List Leaf) : Option (Nat × List Leaf) := match s.1 with
  | 0 => let r := s.2; asI r (fun a0 r => asI r (fun a1 r => asE r (g20_0 a0 a1) none) none) none
  | _ => none
def ent20 : Ent := ⟨ain20, aout20, g20⟩
def os20 : List Orc := []
theorem ok20 (n : Nat) : EntSound (evF tab (n + 1)) 20 ent20 :=
  fn_sound (n := n + 0) (ck20 n) (OK := okOf os20) (body := kc20) (show OrcsOk (okOf os20) (evF tab (n + 0)) kc20 from ⟨trivial, ⟨⟨trivial, ⟨⟨trivial, ⟨trivial, trivial⟩⟩, trivial⟩⟩, ⟨trivial, ⟨⟨trivial, ⟨trivial, trivial⟩⟩, ⟨trivial, ⟨trivial, trivial⟩⟩⟩⟩⟩⟩) t20 (by kernel_rfl)
    (all_ins (Q := fun i sh => ∀ ls, fillA sh ls (fun args h => fnK (ckOf es20) (okOf os20) sf20 kc20 args h (findRes aout20 0) none) none = g20 (i, ls)) (l := ain20) ⟨fun ls => by kernel_rfl, trivial⟩)
/-! function 21 -/
def es21 : List (FuncId × Ent) := []
theorem ck21 (n : Nat) : CallKOk (ckOf es21) (evF tab (n + 0)) :=
  ckOf_nil
def kc21 : KC := (.seq (.reg r21_0) (.seq (.seq (.reg r21_1) (.cond (.t 7) (.seq (.reg r21_2) (.seq (.kill [0, 1, 5, 7, 14]) .ret)) .skip)) (.seq (.reg r21_3) (.seq (.seq (.reg r21_4) (.cond (.t 14) (.reg r21_5) .skip)) (.seq (.reg r21_6) (.seq (.kill [0, 1, 5, 7, 14]) .ret))))))
def ain21 : List APat := [⟨[(.int .i64), (.int .i64)], []⟩]
def aout21 : List RPat := [⟨(.int .i64), [], []⟩]
def g21_0 (a0 : Int) (a1 : Int) : Option (Nat × List Leaf) :=
  cond (Decidable.decide (a1 < (1 : Int))) (some (0, [.i ((0 : Int))])) (if a1 = (0 : Int) then none else if a1 = (0 : Int) then none else cond (Decidable.decide (Int.tmod a0 a1 < (0 : Int))) (some (0, [.i (Go.IntKind.wrap Go.IntKind.i64 (Go.IntKind.wrap Go.IntKind.i64 (Int.tdiv a0 a1) - (1 : Int)))])) (some (0, [.i (Go.IntKind.wrap Go.IntKind.i64 (Int.tdiv a0 a1))])))
def g21 (s : Nat × List Leaf) : Option (Nat × List Leaf) := match s.1 with
  | 0 => let r := s.2; asI r (fun a0 r => asI r (fun a1 r => asE r (g21_0 a0 a1) none) none) none
  | _ => none
def ent21 : Ent := ⟨ain21, aout21, g21⟩
def os21 : List Orc := []
theorem ok21 (n : Nat) : EntSound (evF tab (n + 1)) 21 ent21 :=
  fn_sound (n := n + 0) (ck21 n) (OK := okOf os21) (body := kc21) (show OrcsOk (okOf os21) (evF tab (n + 0)) kc21 from ⟨trivial, ⟨⟨trivial, ⟨⟨trivial, ⟨trivial, trivial⟩⟩, trivial⟩⟩, ⟨trivial, ⟨⟨trivial, ⟨trivial, trivial⟩⟩, ⟨trivial, ⟨trivial, trivial⟩⟩⟩⟩⟩⟩) t21 (by kernel_rfl)
    (all_ins (Q := fun i sh => ∀ ls, fillA sh ls (fun args h => fnK (ckOf es21) (okOf os21) sf21 kc21 args h (findRes aout21 0) none) none = g21 (i, ls)) (l := ain21) ⟨fun ls => by kernel_rfl, trivial⟩)
/-! function 22 -/
def es22 : List (FuncId × Ent) := []
theorem ck22 (n : Nat) : CallKOk (ckOf es22) (evF tab (n + 0)) :=
  ckOf_nil
def kc22 : KC := (.seq (.reg r22_0) (.seq (.block 0 (.seq (.reg r22_1) (.cond (.t 5) (.seq (.reg r22_2) (.seq (.kill [0, 1, 5, 12]) .ret)) (.seq (.reg r22_3) (.cond (.t 12) (.seq (.reg r22_4) (.seq (.kill [0, 1, 5, 12]) .ret)) .skip))))) (.seq (.reg r22_5) (.seq (.kill [0, 1, 5, 12]) .ret))))
def ain22 : List APat := [⟨[(.int .i64), (.int .i64)], []⟩]
def aout22 : List RPat := [⟨(.int .i64), [], []⟩]
def g22_0 (a0 : Int) (a1 : Int) : Option (Nat × List Leaf) :=
  cond (Decidable.decide (a1 < (0 : Int))) (some (0, [.i ((0 : Int))])) (cond (Decidable.decide ((62 : Int) < a1)) (some (0, [.i ((0 : Int))])) (cond (Decidable.decide (a1 = (0 : Int))) (some (0, [.i (a0)])) (if a1 < (0 : Int) then none else if Go.IntKind.wrap Go.IntKind.i64 (a1 - (1 : Int)) < (0 : Int) then none else some (0, [.i (Go.IntKind.wrap Go.IntKind.i64 (Go.Sx.shrI Go.IntKind.i64 a0 a1 + Go.Sx.bAnd Go.IntKind.i64 (Go.Sx.shrI Go.IntKind.i64 a0 (Go.IntKind.wrap Go.IntKind.i64 (a1 - (1 : Int)))) (1 : Int)))]))))
def g22 (s : Nat × List Leaf) : Option (Nat × List Leaf) := match s.1 with
  | 0 => let r := s.2; asI r (fun a0 r => asI r (fun a1 r => asE r (g22_0 a0 a1) none) none) none
  | _ => none
def ent22 : Ent := ⟨ain22, aout22, g22⟩
def os22 : List Orc := []
theorem ok22 (n : Nat) : EntSound (evF tab (n + 1)) 22 ent22 :=
  fn_sound (n := n + 0) (ck22 n) (OK := okOf os22) (body := kc22) (show OrcsOk (okOf os22) (evF tab (n + 0)) kc22 from ⟨trivial, ⟨⟨trivial, ⟨⟨trivial, ⟨trivial, trivial⟩⟩, ⟨trivial, ⟨⟨trivial, ⟨trivial, trivial⟩⟩, trivial⟩⟩⟩⟩, ⟨trivial, ⟨trivial, trivial⟩⟩⟩⟩) t22 (by kernel_rfl)
    (all_ins (Q := fun i sh => ∀ ls, fillA sh ls (fun args h => fnK (ckOf es22) (okOf os22) sf22 kc22 args h (findRes aout22 0) none) none = g22 (i, ls)) (l := ain22) ⟨fun ls => by kernel_rfl, trivial⟩)
/-! function 12 -/
def es12 : List (FuncId × Ent) := []
theorem ck12 (n : Nat) : CallKOk (ckOf es12) (evF tab (n + 0)) :=
  ckOf_nil
def kc12 : KC := (.seq (.reg r12_0) (.seq (.reg r12_1) (.seq (.reg r12_2) (.seq (.reg r12_3) (.seq (.reg r12_4) (.seq (.kill [0]) .ret))))))
def ain12 : List APat := [⟨[(.int .u32)], []⟩]
def aout12 : List RPat := [⟨(.int .u32), [], []⟩]
def g12_0 (a0 : Int) : Option (Nat × List Leaf) :=
  some (0, [.i (Go.Sx.bXor Go.IntKind.u32 (Go.Sx.bXor Go.IntKind.u32 (Go.Sx.bXor Go.IntKind.u32 a0 (Go.Sx.shlI Go.IntKind.u32 a0 (13 : Int))) (Go.Sx.shrI Go.IntKind.u32 (Go.Sx.bXor Go.IntKind.u32 a0 (Go.Sx.shlI Go.IntKind.u32 a0 (13 : Int))) (17 : Int))) (Go.Sx.shlI Go.IntKind.u32 (Go.Sx.bXor Go.IntKind.u32 (Go.Sx.bXor Go.IntKind.u32 a0 (Go.Sx.shlI Go.IntKind.u32 a0 (13 : Int))) (Go.Sx.shrI Go.IntKind.u32 (Go.Sx.bXor Go.IntKind.u32 a0 (Go.Sx.shlI Go.IntKind.u32 a0 (13 : Int))) (17 : Int))) (5 : Int)))])
def g12 (s : Nat × List Leaf) : Option (Nat × List Leaf) := match s.1 with
  | 0 => let r := s.2; asI r (fun a0 r => asE r (g12_0 a0) none) none
  | _ => none
def ent12 : Ent := ⟨ain12, aout12, g12⟩
def os12 : List Orc := []
theorem ok12 (n : Nat) : EntSound (evF tab (n + 1)) 12 ent12 :=
  fn_sound (n := n + 0) (ck12 n) (OK := okOf os12) (body := kc12) (show OrcsOk (okOf os12) (evF tab (n + 0)) kc12 from ⟨trivial, ⟨trivial, ⟨trivial, ⟨trivial, ⟨trivial, ⟨trivial, trivial⟩⟩⟩⟩⟩⟩) t12 (by kernel_rfl)
    (all_ins (Q := fun i sh => ∀ ls, fillA sh ls (fun args h => fnK (ckOf es12) (okOf os12) sf12 kc12 args h (findRes aout12 0) none) none = g12 (i, ls)) (l := ain12) ⟨fun ls => by kernel_rfl, trivial⟩)
/-! function 13 -/
def es13 : List (FuncId × Ent) := []
theorem ck13 (n : Nat) : CallKOk (ckOf es13) (evF tab (n + 0)) :=
  ckOf_nil
def kc13 : KC := (.seq (.reg r13_0) (.seq (.reg r13_1) (.seq (.reg r13_2) (.seq (.reg r13_3) (.seq (.reg r13_4) (.seq (.kill [0]) .ret))))))
def ain13 : List APat := [⟨[(.int .u32)], []⟩]
def aout13 : List RPat := [⟨(.int .u32), [], []⟩]
def g13_0 (a0 : Int) : Option (Nat × List Leaf) :=
  some (0, [.i (Go.Sx.bXor Go.IntKind.u32 (Go.Sx.bXor Go.IntKind.u32 (Go.Sx.bXor Go.IntKind.u32 a0 (Go.IntKind.wrap Go.IntKind.u32 (a0 * (8192 : Int)))) (Go.IntKind.wrap Go.IntKind.u32 (Int.tdiv (Go.Sx.bXor Go.IntKind.u32 a0 (Go.IntKind.wrap Go.IntKind.u32 (a0 * (8192 : Int)))) (131072 : Int)))) (Go.IntKind.wrap Go.IntKind.u32 (Go.Sx.bXor Go.IntKind.u32 (Go.Sx.bXor Go.IntKind.u32 a0 (Go.IntKind.wrap Go.IntKind.u32 (a0 * (8192 : Int)))) (Go.IntKind.wrap Go.IntKind.u32 (Int.tdiv (Go.Sx.bXor Go.IntKind.u32 a0 (Go.IntKind.wrap Go.IntKind.u32 (a0 * (8192 : Int)))) (131072 : Int))) * (32 : Int))))])
def g13 (s : Nat × List Leaf) : Option (Nat × List Leaf) := match s.1 with
  | 0 => let r := s.2; asI r (fun a0 r => asE r (g13_0 a0) none) none
  | _ => none
def ent13 : Ent := ⟨ain13, aout13, g13⟩
def os13 : List Orc := []
theorem ok13 (n : Nat) : EntSound (evF tab (n + 1)) 13 ent13 :=
  fn_sound (n := n + 0) (ck13 n) (OK := okOf os13) (body := kc13) (show OrcsOk (okOf os13) (evF tab (n + 0)) kc13 from ⟨trivial, ⟨trivial, ⟨trivial, ⟨trivial, ⟨trivial, ⟨trivial, trivial⟩⟩⟩⟩⟩⟩) t13 (by kernel_rfl)
    (all_ins (Q := fun i sh => ∀ ls, fillA sh ls (fun args h => fnK (ckOf es13) (okOf os13) sf13 kc13 args h (findRes aout13 0) none) none = g13 (i, ls)) (l := ain13) ⟨fun ls => by kernel_rfl, trivial⟩)
/-! function 7 -/
def es7 : List (FuncId × Ent) := []
theorem ck7 (n : Nat) : CallKOk (ckOf es7) (evF tab (n + 0)) :=
  ckOf_nil
def kc7 : KC := (.seq (.reg r7_0) (.seq (.reg r7_1) (.seq (.kill [0, 1]) .ret)))
def ain7 : List APat := [⟨[(.agg [(.int .i64), (.int .i64), (.int .i64), (.int .i64), (.int .u32)])], []⟩]
def aout7 : List RPat := [⟨.bool, [], []⟩]
def g7_0 (a0_0 : Int) (a0_1 : Int) (a0_2 : Int) (a0_3 : Int) (a0_4 : Int) : Option (Nat × List Leaf) :=
  cond (Decidable.decide ((0 : Int) ≤ a0_0)) (cond (Decidable.decide (a0_0 ≤ (4 : Int))) (cond (Decidable.decide ((1 : Int) ≤ a0_1)) (cond (Decidable.decide (a0_1 ≤ (65536 : Int))) (cond (Decidable.decide ((0 : Int) ≤ a0_2)) (cond (Decidable.decide (a0_2 ≤ (32767 : Int))) (cond (Decidable.decide ((0 : Int) ≤ a0_3)) (some (0, [.b (Decidable.decide (a0_3 < a0_1))])) (some (0, [.b (Bool.false)]))) (some (0, [.b (Bool.false)]))) (some (0, [.b (Bool.false)]))) (some (0, [.b (Bool.false)]))) (some (0, [.b (Bool.false)]))) (some (0, [.b (Bool.false)]))) (some (0, [.b (Bool.false)]))
def g7 (s : Nat × List Leaf) : Option (Nat × List Leaf) := match s.1 with
  | 0 => let r := s.2; asI r (fun a0_0 r => asI r (fun a0_1 r => asI r (fun a0_2 r => asI r (fun a0_3 r => asI r (fun a0_4 r => asE r (g7_0 a0_0 a0_1 a0_2 a0_3 a0_4) none) none) none) none) none) none
  | _ => none
def ent7 : Ent := ⟨ain7, aout7, g7⟩
def os7 : List Orc := []
theorem ok7 (n : Nat) : EntSound (evF tab (n + 1)) 7 ent7 :=
  fn_sound (n := n + 0) (ck7 n) (OK := okOf os7) (body := kc7) (show OrcsOk (okOf os7) (evF tab (n + 0)) kc7 from ⟨trivial, ⟨trivial, ⟨trivial, trivial⟩⟩⟩) t7 (by kernel_rfl)
    (all_ins (Q := fun i sh => ∀ ls, fillA sh ls (fun args h => fnK (ckOf es7) (okOf os7) sf7 kc7 args h (findRes aout7 0) none) none = g7 (i, ls)) (l := ain7) ⟨fun ls => by kernel_rfl, trivial⟩)
/-! function 8 -/
def es8 : List (FuncId × Ent) := []
theorem ck8 (n : Nat) : CallKOk (ckOf es8) (evF tab (n + 0)) :=
  ckOf_nil
def kc8 : KC := (.seq (.reg r8_0) (.seq (.reg r8_1) (.seq (.kill [0, 1]) .ret)))
def ain8 : List APat := [⟨[(.agg [(.int .i64), (.int .i64), (.int .i64), (.int .i64), (.int .u32)])], []⟩]
def aout8 : List RPat := [⟨.bool, [], []⟩]
def g8_0 (a0_0 : Int) (a0_1 : Int) (a0_2 : Int) (a0_3 : Int) (a0_4 : Int) : Option (Nat × List Leaf) :=
  cond (Decidable.decide ((0 : Int) ≤ a0_0)) (cond (Decidable.decide (a0_0 ≤ (4 : Int))) (cond (Decidable.decide ((1 : Int) ≤ a0_1)) (cond (Decidable.decide (a0_1 ≤ (65536 : Int))) (cond (Decidable.decide ((0 : Int) ≤ a0_2)) (cond (Decidable.decide (a0_2 ≤ (32767 : Int))) (cond (Decidable.decide ((0 : Int) ≤ a0_3)) (some (0, [.b (Decidable.decide (a0_3 < a0_1))])) (some (0, [.b (Bool.false)]))) (some (0, [.b (Bool.false)]))) (some (0, [.b (Bool.false)]))) (some (0, [.b (Bool.false)]))) (some (0, [.b (Bool.false)]))) (some (0, [.b (Bool.false)]))) (some (0, [.b (Bool.false)]))
def g8 (s : Nat × List Leaf) : Option (Nat × List Leaf) := match s.1 with
  | 0 => let r := s.2; asI r (fun a0_0 r => asI r (fun a0_1 r => asI r (fun a0_2 r => asI r (fun a0_3 r => asI r (fun a0_4 r => asE r (g8_0 a0_0 a0_1 a0_2 a0_3 a0_4) none) none) none) none) none) none
  | _ => none
def ent8 : Ent := ⟨ain8, aout8, g8⟩
def os8 : List Orc := []
theorem ok8 (n : Nat) : EntSound (evF tab (n + 1)) 8 ent8 :=
  fn_sound (n := n + 0) (ck8 n) (OK := okOf os8) (body := kc8) (show OrcsOk (okOf os8) (evF tab (n + 0)) kc8 from ⟨trivial, ⟨trivial, ⟨trivial, trivial⟩⟩⟩) t8 (by kernel_rfl)
    (all_ins (Q := fun i sh => ∀ ls, fillA sh ls (fun args h => fnK (ckOf es8) (okOf os8) sf8 kc8 args h (findRes aout8 0) none) none = g8 (i, ls)) (l := ain8) ⟨fun ls => by kernel_rfl, trivial⟩)
/-! function 23 -/
def es23 : List (FuncId × Ent) := []
theorem ck23 (n : Nat) : CallKOk (ckOf es23) (evF tab (n + 0)) :=
  ckOf_nil
def kc23 : KC := (.seq (.reg r23_0) (.seq (.seq (.reg r23_1) (.cond (.t 6) (.seq (.reg r23_2) (.seq (.kill [0, 1, 6]) .ret)) .skip)) (.seq (.reg r23_3) (.seq (.kill [0, 1, 6]) .ret))))
def ain23 : List APat := [⟨[(.int .i64), (.int .i64)], []⟩]
def aout23 : List RPat := [⟨(.int .i64), [], []⟩]
def g23_0 (a0 : Int) (a1 : Int) : Option (Nat × List Leaf) :=
  cond (Decidable.decide (a1 < (1 : Int))) (some (0, [.i ((0 : Int))])) (if Go.IntKind.wrap Go.IntKind.i64 (a1 * a1) = (0 : Int) then none else some (0, [.i (Go.IntKind.wrap Go.IntKind.i64 (Int.tdiv (Go.IntKind.wrap Go.IntKind.i64 (Go.IntKind.wrap Go.IntKind.i64 (a0 * Go.IntKind.wrap Go.IntKind.i64 (a1 - a0)) * (65536 : Int))) (Go.IntKind.wrap Go.IntKind.i64 (a1 * a1))))]))
def g23 (s : Nat × List Leaf) : Option (Nat × List Leaf) := match s.1 with
  | 0 => let r := s.2; asI r (fun a0 r => asI r (fun a1 r => asE r (g23_0 a0 a1) none) none) none
  | _ => none
def ent23 : Ent := ⟨ain23, aout23, g23⟩
def os23 : List Orc := []
theorem ok23 (n : Nat) : EntSound (evF tab (n + 1)) 23 ent23 :=
  fn_sound (n := n + 0) (ck23 n) (OK := okOf os23) (body := kc23) (show OrcsOk (okOf os23) (evF tab (n + 0)) kc23 from ⟨trivial, ⟨⟨trivial, ⟨⟨trivial, ⟨trivial, trivial⟩⟩, trivial⟩⟩, ⟨trivial, ⟨trivial, trivial⟩⟩⟩⟩) t23 (by kernel_rfl)
    (all_ins (Q := fun i sh => ∀ ls, fillA sh ls (fun args h => fnK (ckOf es23) (okOf os23) sf23 kc23 args h (findRes aout23 0) none) none = g23 (i, ls)) (l := ain23) ⟨fun ls => by kernel_rfl, trivial⟩)
/-! function 24 -/
def es24 : List (FuncId × Ent) := []
theorem ck24 (n : Nat) : CallKOk (ckOf es24) (evF tab (n + 0)) :=
  ckOf_nil
def kc24 : KC := (.seq (.reg r24_0) (.seq (.reg r24_1) (.seq (.kill [0, 1]) .ret)))
def ain24 : List APat := [⟨[(.int .i64), (.int .i64)], []⟩]
def aout24 : List RPat := [⟨(.int .i64), [], []⟩]
def g24_0 (a0 : Int) (a1 : Int) : Option (Nat × List Leaf) :=
  if Go.IntKind.wrap Go.IntKind.i64 (a1 * a1) = (0 : Int) then none else some (0, [.i (Go.IntKind.wrap Go.IntKind.i64 (Int.tdiv (Go.IntKind.wrap Go.IntKind.i64 (Go.IntKind.wrap Go.IntKind.i64 (a0 * Go.IntKind.wrap Go.IntKind.i64 (a1 - a0)) * (65536 : Int))) (Go.IntKind.wrap Go.IntKind.i64 (a1 * a1))))])
def g24 (s : Nat × List Leaf) : Option (Nat × List Leaf) := match s.1 with
  | 0 => let r := s.2; asI r (fun a0 r => asI r (fun a1 r => asE r (g24_0 a0 a1) none) none) none
  | _ => none
def ent24 : Ent := ⟨ain24, aout24, g24⟩
def os24 : List Orc := []
theorem ok24 (n : Nat) : EntSound (evF tab (n + 1)) 24 ent24 :=
  fn_sound (n := n + 0) (ck24 n) (OK := okOf os24) (body := kc24) (show OrcsOk (okOf os24) (evF tab (n + 0)) kc24 from ⟨trivial, ⟨trivial, ⟨trivial, trivial⟩⟩⟩) t24 (by kernel_rfl)
    (all_ins (Q := fun i sh => ∀ ls, fillA sh ls (fun args h => fnK (ckOf es24) (okOf os24) sf24 kc24 args h (findRes aout24 0) none) none = g24 (i, ls)) (l := ain24) ⟨fun ls => by kernel_rfl, trivial⟩)
/-! function 10 -/
def es10 : List (FuncId × Ent) := [(7, ent7), (20, ent20), (23, ent23), (22, ent22), (21, ent21)]
theorem ck10 (n : Nat) : CallKOk (ckOf es10) (evF tab (n + 1)) :=
  ckOf_cons (ok7 (n + 0)) (ckOf_cons (ok20 (n + 0)) (ckOf_cons (ok23 (n + 0)) (ckOf_cons (ok22 (n + 0)) (ckOf_cons (ok21 (n + 0)) (ckOf_nil)))))
def kc10 : KC := (.seq (.reg r10_0) (.seq (.seq (.reg r10_1) (.cond (.t 15) (.seq (.reg r10_2) (.seq (.kill [0, 1, 2, 5, 6, 7, 15, 27, 28, 33, 39, 49, 54, 75]) .ret)) .skip)) (.seq (.reg r10_3) (.seq (.reg r10_4) (.seq (.reg r10_5) (.seq (.seq (.reg r10_6) (.block 0 (.seq (.reg r10_7) (.cond (.t 28) (.seq (.seq (.reg r10_8) (.cond (.t 33) (.seq (.reg r10_9) (.seq (.kill [0, 1, 2, 5, 6, 7, 15, 27, 28, 33, 39, 49, 54, 75]) .ret)) .skip)) (.seq (.reg r10_10) (.seq (.kill [0, 1, 2, 5, 6, 7, 15, 27, 28, 33, 39, 49, 54, 75]) .ret))) (.seq (.reg r10_11) (.cond (.t 39) (.seq (.reg r10_12) (.seq (.kill [0, 1, 2, 5, 6, 7, 15, 27, 28, 33, 39, 49, 54, 75]) .ret)) (.seq (.reg r10_13) (.cond (.t 49) (.seq (.seq (.reg r10_14) (.cond (.t 54) (.seq (.reg r10_15) (.seq (.kill [0, 1, 2, 5, 6, 7, 15, 27, 28, 33, 39, 49, 54, 75]) .ret)) .skip)) (.seq (.reg r10_16) (.seq (.kill [0, 1, 2, 5, 6, 7, 15, 27, 28, 33, 39, 49, 54, 75]) .ret))) .skip)))))))) (.seq (.seq (.reg r10_17) (.cond (.t 75) (.seq (.reg r10_18) (.seq (.kill [0, 1, 2, 5, 6, 7, 15, 27, 28, 33, 39, 49, 54, 75]) .ret)) .skip)) (.seq (.reg r10_19) (.seq (.kill [0, 1, 2, 5, 6, 7, 15, 27, 28, 33, 39, 49, 54, 75]) .ret)))))))))
def ain10 : List APat := [⟨[(.agg [(.int .i64), (.int .i64), (.int .i64), (.int .i64), (.int .u32)]), (.int .i64)], []⟩]
def aout10 : List RPat := [⟨(.int .i64), [], []⟩]
def g10_0 (a0_0 : Int) (a0_1 : Int) (a0_2 : Int) (a0_3 : Int) (a0_4 : Int) (a1 : Int) : Option (Nat × List Leaf) :=
  altK (g7 (0, [.i (a0_0), .i (a0_1), .i (a0_2), .i (a0_3), .i (a0_4)])) [fun r => asB r (fun x1 r => asE r (cond (!x1) (some (0, [.i ((0 : Int))])) (cond (Decidable.decide (a0_0 = (4 : Int))) (some (0, [.i ((0 : Int))])) (altK (g20 (0, [.i (Go.IntKind.wrap Go.IntKind.i64 (a1 + a0_3)), .i (a0_1)])) [fun r => asI r (fun x2 r => asE r (cond (Decidable.decide (a0_0 = (0 : Int))) (cond (Decidable.decide (Go.IntKind.wrap Go.IntKind.i64 ((2 : Int) * x2) < a0_1)) (some (0, [.i (a0_2)])) (some (0, [.i (Go.IntKind.wrap Go.IntKind.i64 ((0 : Int) - a0_2))]))) (cond (Decidable.decide (a0_0 = (1 : Int))) (altK (g21 (0, [.i (Go.IntKind.wrap Go.IntKind.i64 (Go.IntKind.wrap Go.IntKind.i64 ((2 : Int) * a0_2) * x2)), .i (a0_1)])) [fun r => asI r (fun x9 r => asE r (some (0, [.i (Go.IntKind.wrap Go.IntKind.i64 (x9 - a0_2))])) none) none] none) (cond (Decidable.decide (a0_0 = (2 : Int))) (cond (Decidable.decide (Go.IntKind.wrap Go.IntKind.i64 ((2 : Int) * x2) < a0_1)) (altK (g21 (0, [.i (Go.IntKind.wrap Go.IntKind.i64 (Go.IntKind.wrap Go.IntKind.i64 ((4 : Int) * a0_2) * x2)), .i (a0_1)])) [fun r => asI r (fun x8 r => asE r (some (0, [.i (Go.IntKind.wrap Go.IntKind.i64 (x8 - a0_2))])) none) none] none) (altK (g21 (0, [.i (Go.IntKind.wrap Go.IntKind.i64 (Go.IntKind.wrap Go.IntKind.i64 ((4 : Int) * a0_2) * x2)), .i (a0_1)])) [fun r => asI r (fun x7 r => asE r (some (0, [.i (Go.IntKind.wrap Go.IntKind.i64 (Go.IntKind.wrap Go.IntKind.i64 ((3 : Int) * a0_2) - x7))])) none) none] none)) (cond (Decidable.decide (Go.IntKind.wrap Go.IntKind.i64 ((2 : Int) * x2) < a0_1)) (altK (g23 (0, [.i (Go.IntKind.wrap Go.IntKind.i64 ((2 : Int) * x2)), .i (a0_1)])) [fun r => asI r (fun x5 r => asE r (altK (g22 (0, [.i (Go.IntKind.wrap Go.IntKind.i64 (a0_2 * x5)), .i ((14 : Int))])) [fun r => asI r (fun x6 r => asE r (some (0, [.i (x6)])) none) none] none) none) none] none) (altK (g23 (0, [.i (Go.IntKind.wrap Go.IntKind.i64 (Go.IntKind.wrap Go.IntKind.i64 ((2 : Int) * x2) - a0_1)), .i (a0_1)])) [fun r => asI r (fun x3 r => asE r (altK (g22 (0, [.i (Go.IntKind.wrap Go.IntKind.i64 (a0_2 * x3)), .i ((14 : Int))])) [fun r => asI r (fun x4 r => asE r (some (0, [.i (Go.IntKind.wrap Go.IntKind.i64 ((0 : Int) - x4))])) none) none] none) none) none] none))))) none) none] none))) none) none] none
def g10 (s : Nat × List Leaf) : Option (Nat × List Leaf) := match s.1 with
  | 0 => let r := s.2; asI r (fun a0_0 r => asI r (fun a0_1 r => asI r (fun a0_2 r => asI r (fun a0_3 r => asI r (fun a0_4 r => asI r (fun a1 r => asE r (g10_0 a0_0 a0_1 a0_2 a0_3 a0_4 a1) none) none) none) none) none) none) none
  | _ => none
def ent10 : Ent := ⟨ain10, aout10, g10⟩
def os10 : List Orc := []
theorem ok10 (n : Nat) : EntSound (evF tab (n + 2)) 10 ent10 :=
  fn_sound (n := n + 1) (ck10 n) (OK := okOf os10) (body := kc10) (show OrcsOk (okOf os10) (evF tab (n + 1)) kc10 from ⟨trivial, ⟨⟨trivial, ⟨⟨trivial, ⟨trivial, trivial⟩⟩, trivial⟩⟩, ⟨trivial, ⟨trivial, ⟨trivial, ⟨⟨trivial, ⟨trivial, ⟨⟨⟨trivial, ⟨⟨trivial, ⟨trivial, trivial⟩⟩, trivial⟩⟩, ⟨trivial, ⟨trivial, trivial⟩⟩⟩, ⟨trivial, ⟨⟨trivial, ⟨trivial, trivial⟩⟩, ⟨trivial, ⟨⟨⟨trivial, ⟨⟨trivial, ⟨trivial, trivial⟩⟩, trivial⟩⟩, ⟨trivial, ⟨trivial, trivial⟩⟩⟩, trivial⟩⟩⟩⟩⟩⟩⟩, ⟨⟨trivial, ⟨⟨trivial, ⟨trivial, trivial⟩⟩, trivial⟩⟩, ⟨trivial, ⟨trivial, trivial⟩⟩⟩⟩⟩⟩⟩⟩⟩) t10 (by kernel_rfl)
    (all_ins (Q := fun i sh => ∀ ls, fillA sh ls (fun args h => fnK (ckOf es10) (okOf os10) sf10 kc10 args h (findRes aout10 0) none) none = g10 (i, ls)) (l := ain10) ⟨fun ls => by kernel_rfl, trivial⟩)
/-! function 11 -/
def es11 : List (FuncId × Ent) := [(24, ent24)]
theorem ck11 (n : Nat) : CallKOk (ckOf es11) (evF tab (n + 1)) :=
  ckOf_cons (ok24 (n + 0)) (ckOf_nil)
def kc11 : KC := (.seq (.reg r11_0) (.seq (.reg r11_1) (.seq (.reg r11_2) (.seq (.reg r11_3) (.seq (.reg r11_4) (.block 0 (.seq (.reg r11_5) (.cond (.t 24) (.seq (.seq (.reg r11_6) (.cond (.t 29) (.seq (.reg r11_7) (.seq (.kill [0, 1, 2, 5, 6, 7, 23, 24, 29, 33, 43, 48, 66, 71]) .ret)) .skip)) (.seq (.reg r11_8) (.seq (.kill [0, 1, 2, 5, 6, 7, 23, 24, 29, 33, 43, 48, 66, 71]) .ret))) (.seq (.reg r11_9) (.cond (.t 33) (.seq (.reg r11_10) (.seq (.kill [0, 1, 2, 5, 6, 7, 23, 24, 29, 33, 43, 48, 66, 71]) .ret)) (.seq (.reg r11_11) (.cond (.t 43) (.seq (.seq (.reg r11_12) (.cond (.t 48) (.seq (.reg r11_13) (.seq (.kill [0, 1, 2, 5, 6, 7, 23, 24, 29, 33, 43, 48, 66, 71]) .ret)) .skip)) (.seq (.reg r11_14) (.seq (.kill [0, 1, 2, 5, 6, 7, 23, 24, 29, 33, 43, 48, 66, 71]) .ret))) (.seq (.reg r11_15) (.cond (.t 66) (.seq (.seq (.reg r11_16) (.cond (.t 71) (.seq (.reg r11_17) (.seq (.kill [0, 1, 2, 5, 6, 7, 23, 24, 29, 33, 43, 48, 66, 71]) .ret)) .skip)) (.seq (.reg r11_18) (.seq (.kill [0, 1, 2, 5, 6, 7, 23, 24, 29, 33, 43, 48, 66, 71]) .ret))) (.seq (.reg r11_19) (.seq (.kill [0, 1, 2, 5, 6, 7, 23, 24, 29, 33, 43, 48, 66, 71]) .ret))))))))))))))))
def ain11 : List APat := [⟨[(.agg [(.int .i64), (.int .i64), (.int .i64), (.int .i64), (.int .u32)]), (.int .i64)], []⟩]
def aout11 : List RPat := [⟨(.int .i64), [], []⟩]
def g11_0 (a0_0 : Int) (a0_1 : Int) (a0_2 : Int) (a0_3 : Int) (a0_4 : Int) (a1 : Int) : Option (Nat × List Leaf) :=
  if a0_1 = (0 : Int) then none else if a0_1 = (0 : Int) then none else cond (Decidable.decide (a0_0 = (0 : Int))) (cond (Decidable.decide (Go.IntKind.wrap Go.IntKind.i64 ((2 : Int) * Int.tmod (Go.IntKind.wrap Go.IntKind.i64 (Go.IntKind.wrap Go.IntKind.i64 (Int.tmod a1 a0_1 + a0_3) + a0_1)) a0_1) < a0_1)) (some (0, [.i (a0_2)])) (some (0, [.i (Go.IntKind.wrap Go.IntKind.i64 ((0 : Int) - a0_2))]))) (cond (Decidable.decide (a0_0 = (1 : Int))) (if a0_1 = (0 : Int) then none else some (0, [.i (Go.IntKind.wrap Go.IntKind.i64 (Go.IntKind.wrap Go.IntKind.i64 (Int.tdiv (Go.IntKind.wrap Go.IntKind.i64 (Go.IntKind.wrap Go.IntKind.i64 ((2 : Int) * a0_2) * Int.tmod (Go.IntKind.wrap Go.IntKind.i64 (Go.IntKind.wrap Go.IntKind.i64 (Int.tmod a1 a0_1 + a0_3) + a0_1)) a0_1)) a0_1) - a0_2))])) (cond (Decidable.decide (a0_0 = (2 : Int))) (cond (Decidable.decide (Go.IntKind.wrap Go.IntKind.i64 ((2 : Int) * Int.tmod (Go.IntKind.wrap Go.IntKind.i64 (Go.IntKind.wrap Go.IntKind.i64 (Int.tmod a1 a0_1 + a0_3) + a0_1)) a0_1) < a0_1)) (if a0_1 = (0 : Int) then none else some (0, [.i (Go.IntKind.wrap Go.IntKind.i64 (Go.IntKind.wrap Go.IntKind.i64 (Int.tdiv (Go.IntKind.wrap Go.IntKind.i64 (Go.IntKind.wrap Go.IntKind.i64 ((4 : Int) * a0_2) * Int.tmod (Go.IntKind.wrap Go.IntKind.i64 (Go.IntKind.wrap Go.IntKind.i64 (Int.tmod a1 a0_1 + a0_3) + a0_1)) a0_1)) a0_1) - a0_2))])) (if a0_1 = (0 : Int) then none else some (0, [.i (Go.IntKind.wrap Go.IntKind.i64 (Go.IntKind.wrap Go.IntKind.i64 ((3 : Int) * a0_2) - Go.IntKind.wrap Go.IntKind.i64 (Int.tdiv (Go.IntKind.wrap Go.IntKind.i64 (Go.IntKind.wrap Go.IntKind.i64 ((4 : Int) * a0_2) * Int.tmod (Go.IntKind.wrap Go.IntKind.i64 (Go.IntKind.wrap Go.IntKind.i64 (Int.tmod a1 a0_1 + a0_3) + a0_1)) a0_1)) a0_1)))]))) (cond (Decidable.decide (a0_0 = (3 : Int))) (cond (Decidable.decide (Go.IntKind.wrap Go.IntKind.i64 ((2 : Int) * Int.tmod (Go.IntKind.wrap Go.IntKind.i64 (Go.IntKind.wrap Go.IntKind.i64 (Int.tmod a1 a0_1 + a0_3) + a0_1)) a0_1) < a0_1)) (altK (g24 (0, [.i (Go.IntKind.wrap Go.IntKind.i64 ((2 : Int) * Int.tmod (Go.IntKind.wrap Go.IntKind.i64 (Go.IntKind.wrap Go.IntKind.i64 (Int.tmod a1 a0_1 + a0_3) + a0_1)) a0_1)), .i (a0_1)])) [fun r => asI r (fun x2 r => asE r (some (0, [.i (Go.IntKind.wrap Go.IntKind.i64 (Int.tdiv (Go.IntKind.wrap Go.IntKind.i64 (Go.IntKind.wrap Go.IntKind.i64 (a0_2 * x2) + (8192 : Int))) (16384 : Int)))])) none) none] none) (altK (g24 (0, [.i (Go.IntKind.wrap Go.IntKind.i64 (Go.IntKind.wrap Go.IntKind.i64 ((2 : Int) * Int.tmod (Go.IntKind.wrap Go.IntKind.i64 (Go.IntKind.wrap Go.IntKind.i64 (Int.tmod a1 a0_1 + a0_3) + a0_1)) a0_1) - a0_1)), .i (a0_1)])) [fun r => asI r (fun x1 r => asE r (some (0, [.i (Go.IntKind.wrap Go.IntKind.i64 ((0 : Int) - Go.IntKind.wrap Go.IntKind.i64 (Int.tdiv (Go.IntKind.wrap Go.IntKind.i64 (Go.IntKind.wrap Go.IntKind.i64 (a0_2 * x1) + (8192 : Int))) (16384 : Int))))])) none) none] none)) (some (0, [.i ((0 : Int))])))))
def g11 (s : Nat × List Leaf) : Option (Nat × List Leaf) := match s.1 with
  | 0 => let r := s.2; asI r (fun a0_0 r => asI r (fun a0_1 r => asI r (fun a0_2 r => asI r (fun a0_3 r => asI r (fun a0_4 r => asI r (fun a1 r => asE r (g11_0 a0_0 a0_1 a0_2 a0_3 a0_4 a1) none) none) none) none) none) none) none
  | _ => none
def ent11 : Ent := ⟨ain11, aout11, g11⟩
def os11 : List Orc := []
theorem ok11 (n : Nat) : EntSound (evF tab (n + 2)) 11 ent11 :=
  fn_sound (n := n + 1) (ck11 n) (OK := okOf os11) (body := kc11) (show OrcsOk (okOf os11) (evF tab (n + 1)) kc11 from ⟨trivial, ⟨trivial, ⟨trivial, ⟨trivial, ⟨trivial, ⟨trivial, ⟨⟨⟨trivial, ⟨⟨trivial, ⟨trivial, trivial⟩⟩, trivial⟩⟩, ⟨trivial, ⟨trivial, trivial⟩⟩⟩, ⟨trivial, ⟨⟨trivial, ⟨trivial, trivial⟩⟩, ⟨trivial, ⟨⟨⟨trivial, ⟨⟨trivial, ⟨trivial, trivial⟩⟩, trivial⟩⟩, ⟨trivial, ⟨trivial, trivial⟩⟩⟩, ⟨trivial, ⟨⟨⟨trivial, ⟨⟨trivial, ⟨trivial, trivial⟩⟩, trivial⟩⟩, ⟨trivial, ⟨trivial, trivial⟩⟩⟩, ⟨trivial, ⟨trivial, trivial⟩⟩⟩⟩⟩⟩⟩⟩⟩⟩⟩⟩⟩⟩⟩) t11 (by kernel_rfl)
    (all_ins (Q := fun i sh => ∀ ls, fillA sh ls (fun args h => fnK (ckOf es11) (okOf os11) sf11 kc11 args h (findRes aout11 0) none) none = g11 (i, ls)) (l := ain11) ⟨fun ls => by kernel_rfl, trivial⟩)
/-! function 9: closed -/
theorem ok9 (n : Nat) : EntSound (evF tab (n + 20)) 9 awakeE := awake_sound (by kernel_rfl)
/-! function 4 -/
def es4 : List (FuncId × Ent) := [(12, ent12), (13, ent13), (9, awakeE)]
theorem ck4 (n : Nat) : CallKOk (ckOf es4) (evF tab (n + 20)) :=
  ckOf_cons (ok12 (n + 19)) (ckOf_cons (ok13 (n + 19)) (ckOf_cons (ok9 (n + 0)) (ckOf_nil)))
def kc4 : KC := (.seq (.reg r4_0) (.seq (.reg r4_1) (.seq (.kill [0, 1]) .ret)))
def ain4 : List APat := [⟨[(.int .u32), (.int .u32)], []⟩]
def aout4 : List RPat := [⟨.bool, [], []⟩]
def g4_0 (a0 : Int) (a1 : Int) : Option (Nat × List Leaf) :=
  altK (g12 (0, [.i (a0)])) [fun r => asI r (fun x1 r => asE r (altK (g13 (0, [.i (a0)])) [fun r => asI r (fun x2 r => asE r (cond (Decidable.decide (x1 = x2)) (altK (g12 (0, [.i (a0)])) [fun r => asI r (fun x3 r => asE r (altK (g12 (0, [.i (a1)])) [fun r => asI r (fun x4 r => asE r (cond (Decidable.decide (Decidable.decide (x3 = x4) = Decidable.decide (a0 = a1))) (altK (awakeL (0, [])) [fun r => asB r (fun x5 r => asE r (some (0, [.b (x5)])) none) none] none) (some (0, [.b (Bool.false)]))) none) none] none) none) none] none) (some (0, [.b (Bool.false)]))) none) none] none) none) none] none
def g4 (s : Nat × List Leaf) : Option (Nat × List Leaf) := match s.1 with
  | 0 => let r := s.2; asI r (fun a0 r => asI r (fun a1 r => asE r (g4_0 a0 a1) none) none) none
  | _ => none
def ent4 : Ent := ⟨ain4, aout4, g4⟩
def os4 : List Orc := []
theorem ok4 (n : Nat) : EntSound (evF tab (n + 21)) 4 ent4 :=
  fn_sound (n := n + 20) (ck4 n) (OK := okOf os4) (body := kc4) (show OrcsOk (okOf os4) (evF tab (n + 20)) kc4 from ⟨trivial, ⟨trivial, ⟨trivial, trivial⟩⟩⟩) t4 (by kernel_rfl)
    (all_ins (Q := fun i sh => ∀ ls, fillA sh ls (fun args h => fnK (ckOf es4) (okOf os4) sf4 kc4 args h (findRes aout4 0) none) none = g4 (i, ls)) (l := ain4) ⟨fun ls => by kernel_rfl, trivial⟩)
/-! function 3 -/
def es3 : List (FuncId × Ent) := [(7, ent7), (8, ent8), (10, ent10), (11, ent11), (9, awakeE)]
theorem ck3 (n : Nat) : CallKOk (ckOf es3) (evF tab (n + 20)) :=
  ckOf_cons (ok7 (n + 19)) (ckOf_cons (ok8 (n + 19)) (ckOf_cons (ok10 (n + 18)) (ckOf_cons (ok11 (n + 18)) (ckOf_cons (ok9 (n + 0)) (ckOf_nil)))))
def kc3 : KC := (.seq (.reg r3_0) (.seq (.seq (.reg r3_1) (.cond (.t 10) (.seq (.reg r3_2) (.seq (.kill [0, 1, 2, 5, 10, 16, 23]) .ret)) .skip)) (.seq (.seq (.reg r3_3) (.cond (.t 16) (.seq (.reg r3_4) (.seq (.kill [0, 1, 2, 5, 10, 16, 23]) .ret)) .skip)) (.seq (.reg r3_5) (.seq (.seq (.reg r3_6) (.cond (.t 23) (.seq (.reg r3_7) (.seq (.kill [0, 1, 2, 5, 10, 16, 23]) .ret)) .skip)) (.seq (.reg r3_8) (.seq (.kill [0, 1, 2, 5, 10, 16, 23]) .ret)))))))
def ain3 : List APat := [⟨[(.agg [(.int .i64), (.int .i64), (.int .i64), (.int .i64), (.int .u32)]), (.int .i64)], []⟩]
def aout3 : List RPat := [⟨.bool, [], []⟩]
def g3_0 (a0_0 : Int) (a0_1 : Int) (a0_2 : Int) (a0_3 : Int) (a0_4 : Int) (a1 : Int) : Option (Nat × List Leaf) :=
  altK (g7 (0, [.i (a0_0), .i (a0_1), .i (a0_2), .i (a0_3), .i (a0_4)])) [fun r => asB r (fun x1 r => asE r (altK (g8 (0, [.i (a0_0), .i (a0_1), .i (a0_2), .i (a0_3), .i (a0_4)])) [fun r => asB r (fun x2 r => asE r (cond (Decidable.decide (x1 ≠ x2)) (some (0, [.b (Bool.false)])) (cond (Decidable.decide (a1 < (-1099511627776 : Int))) (altK (awakeL (0, [])) [fun r => asB r (fun x9 r => asE r (some (0, [.b (x9)])) none) none] none) (cond (Decidable.decide ((1099511627776 : Int) < a1)) (altK (awakeL (0, [])) [fun r => asB r (fun x8 r => asE r (some (0, [.b (x8)])) none) none] none) (altK (g10 (0, [.i (a0_0), .i (a0_1), .i (a0_2), .i (a0_3), .i (a0_4), .i (a1)])) [fun r => asI r (fun x3 r => asE r (altK (g8 (0, [.i (a0_0), .i (a0_1), .i (a0_2), .i (a0_3), .i (a0_4)])) [fun r => asB r (fun x4 r => asE r (cond (!x4) (cond (Decidable.decide (x3 = (0 : Int))) (altK (awakeL (0, [])) [fun r => asB r (fun x7 r => asE r (some (0, [.b (x7)])) none) none] none) (some (0, [.b (Bool.false)]))) (altK (g11 (0, [.i (a0_0), .i (a0_1), .i (a0_2), .i (a0_3), .i (a0_4), .i (a1)])) [fun r => asI r (fun x5 r => asE r (cond (Decidable.decide (x3 = x5)) (cond (Decidable.decide (x3 ≤ a0_2)) (cond (Decidable.decide (Go.IntKind.wrap Go.IntKind.i64 ((0 : Int) - a0_2) ≤ x3)) (altK (awakeL (0, [])) [fun r => asB r (fun x6 r => asE r (some (0, [.b (x6)])) none) none] none) (some (0, [.b (Bool.false)]))) (some (0, [.b (Bool.false)]))) (some (0, [.b (Bool.false)]))) none) none] none)) none) none] none) none) none] none)))) none) none] none) none) none] none
def g3 (s : Nat × List Leaf) : Option (Nat × List Leaf) := match s.1 with
  | 0 => let r := s.2; asI r (fun a0_0 r => asI r (fun a0_1 r => asI r (fun a0_2 r => asI r (fun a0_3 r => asI r (fun a0_4 r => asI r (fun a1 r => asE r (g3_0 a0_0 a0_1 a0_2 a0_3 a0_4 a1) none) none) none) none) none) none) none
  | _ => none
def ent3 : Ent := ⟨ain3, aout3, g3⟩
def os3 : List Orc := []
theorem ok3 (n : Nat) : EntSound (evF tab (n + 21)) 3 ent3 :=
  fn_sound (n := n + 20) (ck3 n) (OK := okOf os3) (body := kc3) (show OrcsOk (okOf os3) (evF tab (n + 20)) kc3 from ⟨trivial, ⟨⟨trivial, ⟨⟨trivial, ⟨trivial, trivial⟩⟩, trivial⟩⟩, ⟨⟨trivial, ⟨⟨trivial, ⟨trivial, trivial⟩⟩, trivial⟩⟩, ⟨trivial, ⟨⟨trivial, ⟨⟨trivial, ⟨trivial, trivial⟩⟩, trivial⟩⟩, ⟨trivial, ⟨trivial, trivial⟩⟩⟩⟩⟩⟩⟩) t3 (by kernel_rfl)
    (all_ins (Q := fun i sh => ∀ ls, fillA sh ls (fun args h => fnK (ckOf es3) (okOf os3) sf3 kc3 args h (findRes aout3 0) none) none = g3 (i, ls)) (l := ain3) ⟨fun ls => by kernel_rfl, trivial⟩)
end Go.Proofs.Ytgmlibigknnbmaa
