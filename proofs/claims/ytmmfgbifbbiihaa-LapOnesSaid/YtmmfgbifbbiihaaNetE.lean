/-
  What the rounds of net's Forward and Inverse compute, evaluated region by region. Conditions: none.
-/
import Derived.Test.YtmmfgbifbbiihaaNetP
namespace Go.Proofs.Ytmmfgbifbbiihaa
open Go Go.Sx Go.RowKit
set_option maxRecDepth 100000
set_option linter.unusedVariables false

/-- One turn of two places, by a called function. -/
def netAt (call : CallF) (f : Nat) (ts : List Int) (r : Nat) (b : List Int) (i : Nat) : Option (List Int) :=
  match call f [.int .i64 (b.getD i 0), .int .i64 (b.getD (i + 2 ^ r) 0), .ints .i64 [ts.getD (2 * tix r i) 0, ts.getD (2 * tix r i + 1) 0]] [] with
  | some (.tup [.int .i64 x, .int .i64 y], [], []) => some ((b.set i x).set (i + 2 ^ r) y)
  | _ => none
def netRound (call : CallF) (f : Nat) (ts : List Int) (r : Nat) : List Nat → List Int → Option (List Int)
  | [], b => some b
  | i :: l, b => (netAt call f ts r b i).bind (netRound call f ts r l)
def netAll (call : CallF) (f : Nat) (ts : List Int) : List Nat → List Int → Option (List Int)
  | [], b => some b
  | r :: l, b => (netRound call f ts r (preP r 16) b).bind (netAll call f ts l)
def netG (f : Nat) (rs : List Nat) (call : CallF) (args : List EV) : Option EV :=
  match args with
  | [.ints .i64 ts, .ints .i64 b] => if ts.length = 16 ∧ b.length = 16 then (netAll call f ts rs b).map (.ints .i64) else none
  | _ => none
def rdF (j : Nat) : Nat := j
def rdI (j : Nat) : Nat := 3 - j
abbrev row16 (l : List Int) : Row := ⟨true, .ints .i64 l⟩
abbrev trn (ts : List Int) (r i : Nat) : EV := .ints .i64 [ts.getD (2 * tix r i) 0, ts.getD (2 * tix r i + 1) 0]

def s0F (ts b : List Int) : St := { env := [(0, .ints .i64 ts), (1, .ints .i64 b), (2, .unk), (3, .unk), (4, .unk), (5, .unk), (6, .unk), (7, .unk), (8, .unk), (9, .unk), (10, .unk), (14, .unk), (15, .unk), (16, .unk)], heap := [], m := 0 }
def sHdF (ts b : List Int) (j : Nat) (x : EV) : St := { env := [(0, .unk), (1, .unk), (2, .ptr 0 0), (3, .ptr 1 0), (4, .ptr 2 0), (5, .unk), (6, .unk), (7, .unk), (8, .unk), (9, .int .i64 j), (10, x), (14, .unk), (15, .unk), (16, .unk)], heap := [row16 ts, row16 b, row16 zs16], m := 0 }
def sRF (ts b : List Int) (r : Nat) : St := { env := [(0, .unk), (1, .unk), (2, .ptr 0 0), (3, .ptr 1 0), (4, .ptr 2 0), (5, .ptr 3 0), (6, .unk), (7, .unk), (8, .unk), (9, .int .i64 r), (10, .bool true), (14, .fn 40 [] [.ptr 4 0, .ptr 5 0]), (15, .unk), (16, .unk)], heap := NF.hp ts b r, m := 0 }
def s1F (ts b : List Int) (r i : Nat) : St := { env := [(0, .unk), (1, .unk), (2, .ptr 0 0), (3, .ptr 1 0), (4, .ptr 2 0), (5, .ptr 3 0), (6, .unk), (7, .unk), (8, .unk), (9, .int .i64 r), (10, .bool true), (14, .fn 40 [] [.ptr 4 0, .ptr 5 0]), (15, .int .i64 i), (16, trn ts r i)], heap := NF.hp ts b r, m := 6 }
def sGF (ts b : List Int) (r i : Nat) : St := { env := [(0, .unk), (1, .unk), (2, .ptr 0 0), (3, .ptr 1 0), (4, .ptr 2 0), (5, .ptr 3 0), (6, .int .i64 i), (7, .ptr 6 0), (8, .unk), (9, .int .i64 r), (10, .bool true), (14, .fn 40 [] [.ptr 4 0, .ptr 5 0]), (15, .int .i64 i), (16, trn ts r i)], heap := NF.hp ts b r ++ [⟨true, trn ts r i⟩], m := 6 }
def sKF (ts b : List Int) (r i : Nat) : St := { env := [(0, .unk), (1, .unk), (2, .ptr 0 0), (3, .ptr 1 0), (4, .ptr 2 0), (5, .ptr 3 0), (6, .int .i64 i), (7, .ptr 6 0), (8, .int .i64 ((i + 2 ^ r : Nat) : Int)), (9, .int .i64 r), (10, .bool true), (14, .fn 40 [] [.ptr 4 0, .ptr 5 0]), (15, .int .i64 i), (16, trn ts r i)], heap := NF.hp ts b r ++ [⟨true, trn ts r i⟩], m := 6 }
def s9F (ts b : List Int) (r i : Nat) : St := { env := (sKF ts b r i).env ++ [(22, .int .i64 i), (23, .int .i64 ((i + 2 ^ r : Nat) : Int)), (24, .int .i64 i), (25, .ptr 1 i), (26, .int .i64 (b.getD i 0)), (27, .int .i64 ((i + 2 ^ r : Nat) : Int)), (28, .ptr 1 (i + 2 ^ r)), (29, .int .i64 (b.getD (i + 2 ^ r) 0)), (30, trn ts r i), (31, .unk), (21, .unk), (32, .unk), (33, .unk), (34, .unk), (35, .unk)], heap := NF.hp ts b r ++ [⟨true, trn ts r i⟩], m := 6 }
theorem eAF (t0 t1 t2 t3 t4 t5 t6 t7 t8 t9 t10 t11 t12 t13 t14 t15 b0 b1 b2 b3 b4 b5 b6 b7 b8 b9 b10 b11 b12 b13 b14 b15 : Int) : ((runReg cB q17_0 (s0F [t0, t1, t2, t3, t4, t5, t6, t7, t8, t9, t10, t11, t12, t13, t14, t15] [b0, b1, b2, b3, b4, b5, b6, b7, b8, b9, b10, b11, b12, b13, b14, b15])).bind fun st => runReg cB q17_1 st).map (fun st => { st with env := killE [0, 1] st.env }) = some (sHdF [t0, t1, t2, t3, t4, t5, t6, t7, t8, t9, t10, t11, t12, t13, t14, t15] [b0, b1, b2, b3, b4, b5, b6, b7, b8, b9, b10, b11, b12, b13, b14, b15] 0 .unk) := by kernel_rfl
theorem eBF_0 (ts b : List Int) : runReg cB q17_2 (sHdF ts b 0 .unk) = some (sHdF ts b 0 (.bool true)) := by kernel_rfl
theorem eBF_1 (ts b : List Int) : runReg cB q17_2 (sHdF ts b 1 .unk) = some (sHdF ts b 1 (.bool true)) := by kernel_rfl
theorem eBF_2 (ts b : List Int) : runReg cB q17_2 (sHdF ts b 2 .unk) = some (sHdF ts b 2 (.bool true)) := by kernel_rfl
theorem eBF_3 (ts b : List Int) : runReg cB q17_2 (sHdF ts b 3 .unk) = some (sHdF ts b 3 (.bool true)) := by kernel_rfl
theorem eBF_4 (ts b : List Int) : runReg cB q17_2 (sHdF ts b 4 .unk) = some (sHdF ts b 4 (.bool false)) := by kernel_rfl
theorem eCF_0 (t0 t1 t2 t3 t4 t5 t6 t7 t8 t9 t10 t11 t12 t13 t14 t15 : Int) (b : List Int) : ((runReg cB q17_3 (sHdF [t0, t1, t2, t3, t4, t5, t6, t7, t8, t9, t10, t11, t12, t13, t14, t15] b 0 (.bool true))).bind fun st => runReg cB q17_4 st) = some (sRF [t0, t1, t2, t3, t4, t5, t6, t7, t8, t9, t10, t11, t12, t13, t14, t15] b 0) := by kernel_rfl
theorem eHF_0 (ts b : List Int) : ((runReg cB q17_9 (sRF ts b 0)).bind fun st => tidy 0 { st with env := killE [5, 6, 7, 8, 10, 14, 15, 16] st.env }) = some (sHdF ts b 1 .unk) := by kernel_rfl
theorem eCF_1 (t0 t1 t2 t3 t4 t5 t6 t7 t8 t9 t10 t11 t12 t13 t14 t15 : Int) (b : List Int) : ((runReg cB q17_3 (sHdF [t0, t1, t2, t3, t4, t5, t6, t7, t8, t9, t10, t11, t12, t13, t14, t15] b 1 (.bool true))).bind fun st => runReg cB q17_4 st) = some (sRF [t0, t1, t2, t3, t4, t5, t6, t7, t8, t9, t10, t11, t12, t13, t14, t15] b 1) := by kernel_rfl
theorem eHF_1 (ts b : List Int) : ((runReg cB q17_9 (sRF ts b 1)).bind fun st => tidy 0 { st with env := killE [5, 6, 7, 8, 10, 14, 15, 16] st.env }) = some (sHdF ts b 2 .unk) := by kernel_rfl
theorem eCF_2 (t0 t1 t2 t3 t4 t5 t6 t7 t8 t9 t10 t11 t12 t13 t14 t15 : Int) (b : List Int) : ((runReg cB q17_3 (sHdF [t0, t1, t2, t3, t4, t5, t6, t7, t8, t9, t10, t11, t12, t13, t14, t15] b 2 (.bool true))).bind fun st => runReg cB q17_4 st) = some (sRF [t0, t1, t2, t3, t4, t5, t6, t7, t8, t9, t10, t11, t12, t13, t14, t15] b 2) := by kernel_rfl
theorem eHF_2 (ts b : List Int) : ((runReg cB q17_9 (sRF ts b 2)).bind fun st => tidy 0 { st with env := killE [5, 6, 7, 8, 10, 14, 15, 16] st.env }) = some (sHdF ts b 3 .unk) := by kernel_rfl
theorem eCF_3 (t0 t1 t2 t3 t4 t5 t6 t7 t8 t9 t10 t11 t12 t13 t14 t15 : Int) (b : List Int) : ((runReg cB q17_3 (sHdF [t0, t1, t2, t3, t4, t5, t6, t7, t8, t9, t10, t11, t12, t13, t14, t15] b 3 (.bool true))).bind fun st => runReg cB q17_4 st) = some (sRF [t0, t1, t2, t3, t4, t5, t6, t7, t8, t9, t10, t11, t12, t13, t14, t15] b 3) := by kernel_rfl
theorem eHF_3 (ts b : List Int) : ((runReg cB q17_9 (sRF ts b 3)).bind fun st => tidy 0 { st with env := killE [5, 6, 7, 8, 10, 14, 15, 16] st.env }) = some (sHdF ts b 4 .unk) := by kernel_rfl
theorem eGF (ts b : List Int) (r i : Nat) : ((runReg cB q17_5 (s1F ts b r i)).bind fun st => runReg cB q17_6 st) = some (sGF ts b r i) := by kernel_rfl
theorem eZF (b0 b1 b2 b3 b4 b5 b6 b7 b8 b9 b10 b11 b12 b13 b14 b15 : Int) (ts : List Int) : ((runReg cB q17_10 (sHdF ts [b0, b1, b2, b3, b4, b5, b6, b7, b8, b9, b10, b11, b12, b13, b14, b15] 4 (.bool false))).bind fun st => if st.heap.all (·.own) then resAll st [.cell 4 (some 16)] else none) = some [.ints .i64 [b0, b1, b2, b3, b4, b5, b6, b7, b8, b9, b10, b11, b12, b13, b14, b15]] := by kernel_rfl
theorem e7F_0_0 (ts b : List Int) : runReg cB q17_7 (sGF ts b 0 0) = some (sKF ts b 0 0) := by kernel_rfl
theorem e8F_0_0 (call : CallF) (ts : List Int) (b0 b1 b2 b3 b4 b5 b6 b7 b8 b9 b10 b11 b12 b13 b14 b15 : Int) : runOps call (sKF ts [b0, b1, b2, b3, b4, b5, b6, b7, b8, b9, b10, b11, b12, b13, b14, b15] 0 0).heap.length (q17_8.ops.take 9) { sKF ts [b0, b1, b2, b3, b4, b5, b6, b7, b8, b9, b10, b11, b12, b13, b14, b15] 0 0 with env := (sKF ts [b0, b1, b2, b3, b4, b5, b6, b7, b8, b9, b10, b11, b12, b13, b14, b15] 0 0).env ++ q17_8.own.map fun t => (t, .unk), heap := (sKF ts [b0, b1, b2, b3, b4, b5, b6, b7, b8, b9, b10, b11, b12, b13, b14, b15] 0 0).heap ++ List.replicate q17_8.slots ⟨false, .unk⟩ } = some (s9F ts [b0, b1, b2, b3, b4, b5, b6, b7, b8, b9, b10, b11, b12, b13, b14, b15] 0 0) := by kernel_rfl
theorem e9F_0_0 (call : CallF) (ts : List Int) (b0 b1 b2 b3 b4 b5 b6 b7 b8 b9 b10 b11 b12 b13 b14 b15 x y : Int) : (runOps call (sKF ts [b0, b1, b2, b3, b4, b5, b6, b7, b8, b9, b10, b11, b12, b13, b14, b15] 0 0).heap.length (q17_8.ops.drop 10) (applyEff (s9F ts [b0, b1, b2, b3, b4, b5, b6, b7, b8, b9, b10, b11, b12, b13, b14, b15] 0 0) (some 31) { v := .tup [.int .i64 x, .int .i64 y] })).map (fun s => { s with env := s.env.take (sKF ts [b0, b1, b2, b3, b4, b5, b6, b7, b8, b9, b10, b11, b12, b13, b14, b15] 0 0).env.length }) = some (sKF ts (([b0, b1, b2, b3, b4, b5, b6, b7, b8, b9, b10, b11, b12, b13, b14, b15].set 0 x).set (0 + 2 ^ 0) y) 0 0) := by kernel_rfl
theorem e7F_0_2 (ts b : List Int) : runReg cB q17_7 (sGF ts b 0 2) = some (sKF ts b 0 2) := by kernel_rfl
theorem e8F_0_2 (call : CallF) (ts : List Int) (b0 b1 b2 b3 b4 b5 b6 b7 b8 b9 b10 b11 b12 b13 b14 b15 : Int) : runOps call (sKF ts [b0, b1, b2, b3, b4, b5, b6, b7, b8, b9, b10, b11, b12, b13, b14, b15] 0 2).heap.length (q17_8.ops.take 9) { sKF ts [b0, b1, b2, b3, b4, b5, b6, b7, b8, b9, b10, b11, b12, b13, b14, b15] 0 2 with env := (sKF ts [b0, b1, b2, b3, b4, b5, b6, b7, b8, b9, b10, b11, b12, b13, b14, b15] 0 2).env ++ q17_8.own.map fun t => (t, .unk), heap := (sKF ts [b0, b1, b2, b3, b4, b5, b6, b7, b8, b9, b10, b11, b12, b13, b14, b15] 0 2).heap ++ List.replicate q17_8.slots ⟨false, .unk⟩ } = some (s9F ts [b0, b1, b2, b3, b4, b5, b6, b7, b8, b9, b10, b11, b12, b13, b14, b15] 0 2) := by kernel_rfl
theorem e9F_0_2 (call : CallF) (ts : List Int) (b0 b1 b2 b3 b4 b5 b6 b7 b8 b9 b10 b11 b12 b13 b14 b15 x y : Int) : (runOps call (sKF ts [b0, b1, b2, b3, b4, b5, b6, b7, b8, b9, b10, b11, b12, b13, b14, b15] 0 2).heap.length (q17_8.ops.drop 10) (applyEff (s9F ts [b0, b1, b2, b3, b4, b5, b6, b7, b8, b9, b10, b11, b12, b13, b14, b15] 0 2) (some 31) { v := .tup [.int .i64 x, .int .i64 y] })).map (fun s => { s with env := s.env.take (sKF ts [b0, b1, b2, b3, b4, b5, b6, b7, b8, b9, b10, b11, b12, b13, b14, b15] 0 2).env.length }) = some (sKF ts (([b0, b1, b2, b3, b4, b5, b6, b7, b8, b9, b10, b11, b12, b13, b14, b15].set 2 x).set (2 + 2 ^ 0) y) 0 2) := by kernel_rfl
theorem e7F_0_4 (ts b : List Int) : runReg cB q17_7 (sGF ts b 0 4) = some (sKF ts b 0 4) := by kernel_rfl
theorem e8F_0_4 (call : CallF) (ts : List Int) (b0 b1 b2 b3 b4 b5 b6 b7 b8 b9 b10 b11 b12 b13 b14 b15 : Int) : runOps call (sKF ts [b0, b1, b2, b3, b4, b5, b6, b7, b8, b9, b10, b11, b12, b13, b14, b15] 0 4).heap.length (q17_8.ops.take 9) { sKF ts [b0, b1, b2, b3, b4, b5, b6, b7, b8, b9, b10, b11, b12, b13, b14, b15] 0 4 with env := (sKF ts [b0, b1, b2, b3, b4, b5, b6, b7, b8, b9, b10, b11, b12, b13, b14, b15] 0 4).env ++ q17_8.own.map fun t => (t, .unk), heap := (sKF ts [b0, b1, b2, b3, b4, b5, b6, b7, b8, b9, b10, b11, b12, b13, b14, b15] 0 4).heap ++ List.replicate q17_8.slots ⟨false, .unk⟩ } = some (s9F ts [b0, b1, b2, b3, b4, b5, b6, b7, b8, b9, b10, b11, b12, b13, b14, b15] 0 4) := by kernel_rfl
theorem e9F_0_4 (call : CallF) (ts : List Int) (b0 b1 b2 b3 b4 b5 b6 b7 b8 b9 b10 b11 b12 b13 b14 b15 x y : Int) : (runOps call (sKF ts [b0, b1, b2, b3, b4, b5, b6, b7, b8, b9, b10, b11, b12, b13, b14, b15] 0 4).heap.length (q17_8.ops.drop 10) (applyEff (s9F ts [b0, b1, b2, b3, b4, b5, b6, b7, b8, b9, b10, b11, b12, b13, b14, b15] 0 4) (some 31) { v := .tup [.int .i64 x, .int .i64 y] })).map (fun s => { s with env := s.env.take (sKF ts [b0, b1, b2, b3, b4, b5, b6, b7, b8, b9, b10, b11, b12, b13, b14, b15] 0 4).env.length }) = some (sKF ts (([b0, b1, b2, b3, b4, b5, b6, b7, b8, b9, b10, b11, b12, b13, b14, b15].set 4 x).set (4 + 2 ^ 0) y) 0 4) := by kernel_rfl
theorem e7F_0_6 (ts b : List Int) : runReg cB q17_7 (sGF ts b 0 6) = some (sKF ts b 0 6) := by kernel_rfl
theorem e8F_0_6 (call : CallF) (ts : List Int) (b0 b1 b2 b3 b4 b5 b6 b7 b8 b9 b10 b11 b12 b13 b14 b15 : Int) : runOps call (sKF ts [b0, b1, b2, b3, b4, b5, b6, b7, b8, b9, b10, b11, b12, b13, b14, b15] 0 6).heap.length (q17_8.ops.take 9) { sKF ts [b0, b1, b2, b3, b4, b5, b6, b7, b8, b9, b10, b11, b12, b13, b14, b15] 0 6 with env := (sKF ts [b0, b1, b2, b3, b4, b5, b6, b7, b8, b9, b10, b11, b12, b13, b14, b15] 0 6).env ++ q17_8.own.map fun t => (t, .unk), heap := (sKF ts [b0, b1, b2, b3, b4, b5, b6, b7, b8, b9, b10, b11, b12, b13, b14, b15] 0 6).heap ++ List.replicate q17_8.slots ⟨false, .unk⟩ } = some (s9F ts [b0, b1, b2, b3, b4, b5, b6, b7, b8, b9, b10, b11, b12, b13, b14, b15] 0 6) := by kernel_rfl
theorem e9F_0_6 (call : CallF) (ts : List Int) (b0 b1 b2 b3 b4 b5 b6 b7 b8 b9 b10 b11 b12 b13 b14 b15 x y : Int) : (runOps call (sKF ts [b0, b1, b2, b3, b4, b5, b6, b7, b8, b9, b10, b11, b12, b13, b14, b15] 0 6).heap.length (q17_8.ops.drop 10) (applyEff (s9F ts [b0, b1, b2, b3, b4, b5, b6, b7, b8, b9, b10, b11, b12, b13, b14, b15] 0 6) (some 31) { v := .tup [.int .i64 x, .int .i64 y] })).map (fun s => { s with env := s.env.take (sKF ts [b0, b1, b2, b3, b4, b5, b6, b7, b8, b9, b10, b11, b12, b13, b14, b15] 0 6).env.length }) = some (sKF ts (([b0, b1, b2, b3, b4, b5, b6, b7, b8, b9, b10, b11, b12, b13, b14, b15].set 6 x).set (6 + 2 ^ 0) y) 0 6) := by kernel_rfl
theorem e7F_0_8 (ts b : List Int) : runReg cB q17_7 (sGF ts b 0 8) = some (sKF ts b 0 8) := by kernel_rfl
theorem e8F_0_8 (call : CallF) (ts : List Int) (b0 b1 b2 b3 b4 b5 b6 b7 b8 b9 b10 b11 b12 b13 b14 b15 : Int) : runOps call (sKF ts [b0, b1, b2, b3, b4, b5, b6, b7, b8, b9, b10, b11, b12, b13, b14, b15] 0 8).heap.length (q17_8.ops.take 9) { sKF ts [b0, b1, b2, b3, b4, b5, b6, b7, b8, b9, b10, b11, b12, b13, b14, b15] 0 8 with env := (sKF ts [b0, b1, b2, b3, b4, b5, b6, b7, b8, b9, b10, b11, b12, b13, b14, b15] 0 8).env ++ q17_8.own.map fun t => (t, .unk), heap := (sKF ts [b0, b1, b2, b3, b4, b5, b6, b7, b8, b9, b10, b11, b12, b13, b14, b15] 0 8).heap ++ List.replicate q17_8.slots ⟨false, .unk⟩ } = some (s9F ts [b0, b1, b2, b3, b4, b5, b6, b7, b8, b9, b10, b11, b12, b13, b14, b15] 0 8) := by kernel_rfl
theorem e9F_0_8 (call : CallF) (ts : List Int) (b0 b1 b2 b3 b4 b5 b6 b7 b8 b9 b10 b11 b12 b13 b14 b15 x y : Int) : (runOps call (sKF ts [b0, b1, b2, b3, b4, b5, b6, b7, b8, b9, b10, b11, b12, b13, b14, b15] 0 8).heap.length (q17_8.ops.drop 10) (applyEff (s9F ts [b0, b1, b2, b3, b4, b5, b6, b7, b8, b9, b10, b11, b12, b13, b14, b15] 0 8) (some 31) { v := .tup [.int .i64 x, .int .i64 y] })).map (fun s => { s with env := s.env.take (sKF ts [b0, b1, b2, b3, b4, b5, b6, b7, b8, b9, b10, b11, b12, b13, b14, b15] 0 8).env.length }) = some (sKF ts (([b0, b1, b2, b3, b4, b5, b6, b7, b8, b9, b10, b11, b12, b13, b14, b15].set 8 x).set (8 + 2 ^ 0) y) 0 8) := by kernel_rfl
theorem e7F_0_10 (ts b : List Int) : runReg cB q17_7 (sGF ts b 0 10) = some (sKF ts b 0 10) := by kernel_rfl
theorem e8F_0_10 (call : CallF) (ts : List Int) (b0 b1 b2 b3 b4 b5 b6 b7 b8 b9 b10 b11 b12 b13 b14 b15 : Int) : runOps call (sKF ts [b0, b1, b2, b3, b4, b5, b6, b7, b8, b9, b10, b11, b12, b13, b14, b15] 0 10).heap.length (q17_8.ops.take 9) { sKF ts [b0, b1, b2, b3, b4, b5, b6, b7, b8, b9, b10, b11, b12, b13, b14, b15] 0 10 with env := (sKF ts [b0, b1, b2, b3, b4, b5, b6, b7, b8, b9, b10, b11, b12, b13, b14, b15] 0 10).env ++ q17_8.own.map fun t => (t, .unk), heap := (sKF ts [b0, b1, b2, b3, b4, b5, b6, b7, b8, b9, b10, b11, b12, b13, b14, b15] 0 10).heap ++ List.replicate q17_8.slots ⟨false, .unk⟩ } = some (s9F ts [b0, b1, b2, b3, b4, b5, b6, b7, b8, b9, b10, b11, b12, b13, b14, b15] 0 10) := by kernel_rfl
theorem e9F_0_10 (call : CallF) (ts : List Int) (b0 b1 b2 b3 b4 b5 b6 b7 b8 b9 b10 b11 b12 b13 b14 b15 x y : Int) : (runOps call (sKF ts [b0, b1, b2, b3, b4, b5, b6, b7, b8, b9, b10, b11, b12, b13, b14, b15] 0 10).heap.length (q17_8.ops.drop 10) (applyEff (s9F ts [b0, b1, b2, b3, b4, b5, b6, b7, b8, b9, b10, b11, b12, b13, b14, b15] 0 10) (some 31) { v := .tup [.int .i64 x, .int .i64 y] })).map (fun s => { s with env := s.env.take (sKF ts [b0, b1, b2, b3, b4, b5, b6, b7, b8, b9, b10, b11, b12, b13, b14, b15] 0 10).env.length }) = some (sKF ts (([b0, b1, b2, b3, b4, b5, b6, b7, b8, b9, b10, b11, b12, b13, b14, b15].set 10 x).set (10 + 2 ^ 0) y) 0 10) := by kernel_rfl
theorem e7F_0_12 (ts b : List Int) : runReg cB q17_7 (sGF ts b 0 12) = some (sKF ts b 0 12) := by kernel_rfl
theorem e8F_0_12 (call : CallF) (ts : List Int) (b0 b1 b2 b3 b4 b5 b6 b7 b8 b9 b10 b11 b12 b13 b14 b15 : Int) : runOps call (sKF ts [b0, b1, b2, b3, b4, b5, b6, b7, b8, b9, b10, b11, b12, b13, b14, b15] 0 12).heap.length (q17_8.ops.take 9) { sKF ts [b0, b1, b2, b3, b4, b5, b6, b7, b8, b9, b10, b11, b12, b13, b14, b15] 0 12 with env := (sKF ts [b0, b1, b2, b3, b4, b5, b6, b7, b8, b9, b10, b11, b12, b13, b14, b15] 0 12).env ++ q17_8.own.map fun t => (t, .unk), heap := (sKF ts [b0, b1, b2, b3, b4, b5, b6, b7, b8, b9, b10, b11, b12, b13, b14, b15] 0 12).heap ++ List.replicate q17_8.slots ⟨false, .unk⟩ } = some (s9F ts [b0, b1, b2, b3, b4, b5, b6, b7, b8, b9, b10, b11, b12, b13, b14, b15] 0 12) := by kernel_rfl
theorem e9F_0_12 (call : CallF) (ts : List Int) (b0 b1 b2 b3 b4 b5 b6 b7 b8 b9 b10 b11 b12 b13 b14 b15 x y : Int) : (runOps call (sKF ts [b0, b1, b2, b3, b4, b5, b6, b7, b8, b9, b10, b11, b12, b13, b14, b15] 0 12).heap.length (q17_8.ops.drop 10) (applyEff (s9F ts [b0, b1, b2, b3, b4, b5, b6, b7, b8, b9, b10, b11, b12, b13, b14, b15] 0 12) (some 31) { v := .tup [.int .i64 x, .int .i64 y] })).map (fun s => { s with env := s.env.take (sKF ts [b0, b1, b2, b3, b4, b5, b6, b7, b8, b9, b10, b11, b12, b13, b14, b15] 0 12).env.length }) = some (sKF ts (([b0, b1, b2, b3, b4, b5, b6, b7, b8, b9, b10, b11, b12, b13, b14, b15].set 12 x).set (12 + 2 ^ 0) y) 0 12) := by kernel_rfl
theorem e7F_0_14 (ts b : List Int) : runReg cB q17_7 (sGF ts b 0 14) = some (sKF ts b 0 14) := by kernel_rfl
theorem e8F_0_14 (call : CallF) (ts : List Int) (b0 b1 b2 b3 b4 b5 b6 b7 b8 b9 b10 b11 b12 b13 b14 b15 : Int) : runOps call (sKF ts [b0, b1, b2, b3, b4, b5, b6, b7, b8, b9, b10, b11, b12, b13, b14, b15] 0 14).heap.length (q17_8.ops.take 9) { sKF ts [b0, b1, b2, b3, b4, b5, b6, b7, b8, b9, b10, b11, b12, b13, b14, b15] 0 14 with env := (sKF ts [b0, b1, b2, b3, b4, b5, b6, b7, b8, b9, b10, b11, b12, b13, b14, b15] 0 14).env ++ q17_8.own.map fun t => (t, .unk), heap := (sKF ts [b0, b1, b2, b3, b4, b5, b6, b7, b8, b9, b10, b11, b12, b13, b14, b15] 0 14).heap ++ List.replicate q17_8.slots ⟨false, .unk⟩ } = some (s9F ts [b0, b1, b2, b3, b4, b5, b6, b7, b8, b9, b10, b11, b12, b13, b14, b15] 0 14) := by kernel_rfl
theorem e9F_0_14 (call : CallF) (ts : List Int) (b0 b1 b2 b3 b4 b5 b6 b7 b8 b9 b10 b11 b12 b13 b14 b15 x y : Int) : (runOps call (sKF ts [b0, b1, b2, b3, b4, b5, b6, b7, b8, b9, b10, b11, b12, b13, b14, b15] 0 14).heap.length (q17_8.ops.drop 10) (applyEff (s9F ts [b0, b1, b2, b3, b4, b5, b6, b7, b8, b9, b10, b11, b12, b13, b14, b15] 0 14) (some 31) { v := .tup [.int .i64 x, .int .i64 y] })).map (fun s => { s with env := s.env.take (sKF ts [b0, b1, b2, b3, b4, b5, b6, b7, b8, b9, b10, b11, b12, b13, b14, b15] 0 14).env.length }) = some (sKF ts (([b0, b1, b2, b3, b4, b5, b6, b7, b8, b9, b10, b11, b12, b13, b14, b15].set 14 x).set (14 + 2 ^ 0) y) 0 14) := by kernel_rfl
theorem e7F_1_0 (ts b : List Int) : runReg cB q17_7 (sGF ts b 1 0) = some (sKF ts b 1 0) := by kernel_rfl
theorem e8F_1_0 (call : CallF) (ts : List Int) (b0 b1 b2 b3 b4 b5 b6 b7 b8 b9 b10 b11 b12 b13 b14 b15 : Int) : runOps call (sKF ts [b0, b1, b2, b3, b4, b5, b6, b7, b8, b9, b10, b11, b12, b13, b14, b15] 1 0).heap.length (q17_8.ops.take 9) { sKF ts [b0, b1, b2, b3, b4, b5, b6, b7, b8, b9, b10, b11, b12, b13, b14, b15] 1 0 with env := (sKF ts [b0, b1, b2, b3, b4, b5, b6, b7, b8, b9, b10, b11, b12, b13, b14, b15] 1 0).env ++ q17_8.own.map fun t => (t, .unk), heap := (sKF ts [b0, b1, b2, b3, b4, b5, b6, b7, b8, b9, b10, b11, b12, b13, b14, b15] 1 0).heap ++ List.replicate q17_8.slots ⟨false, .unk⟩ } = some (s9F ts [b0, b1, b2, b3, b4, b5, b6, b7, b8, b9, b10, b11, b12, b13, b14, b15] 1 0) := by kernel_rfl
theorem e9F_1_0 (call : CallF) (ts : List Int) (b0 b1 b2 b3 b4 b5 b6 b7 b8 b9 b10 b11 b12 b13 b14 b15 x y : Int) : (runOps call (sKF ts [b0, b1, b2, b3, b4, b5, b6, b7, b8, b9, b10, b11, b12, b13, b14, b15] 1 0).heap.length (q17_8.ops.drop 10) (applyEff (s9F ts [b0, b1, b2, b3, b4, b5, b6, b7, b8, b9, b10, b11, b12, b13, b14, b15] 1 0) (some 31) { v := .tup [.int .i64 x, .int .i64 y] })).map (fun s => { s with env := s.env.take (sKF ts [b0, b1, b2, b3, b4, b5, b6, b7, b8, b9, b10, b11, b12, b13, b14, b15] 1 0).env.length }) = some (sKF ts (([b0, b1, b2, b3, b4, b5, b6, b7, b8, b9, b10, b11, b12, b13, b14, b15].set 0 x).set (0 + 2 ^ 1) y) 1 0) := by kernel_rfl
theorem e7F_1_1 (ts b : List Int) : runReg cB q17_7 (sGF ts b 1 1) = some (sKF ts b 1 1) := by kernel_rfl
theorem e8F_1_1 (call : CallF) (ts : List Int) (b0 b1 b2 b3 b4 b5 b6 b7 b8 b9 b10 b11 b12 b13 b14 b15 : Int) : runOps call (sKF ts [b0, b1, b2, b3, b4, b5, b6, b7, b8, b9, b10, b11, b12, b13, b14, b15] 1 1).heap.length (q17_8.ops.take 9) { sKF ts [b0, b1, b2, b3, b4, b5, b6, b7, b8, b9, b10, b11, b12, b13, b14, b15] 1 1 with env := (sKF ts [b0, b1, b2, b3, b4, b5, b6, b7, b8, b9, b10, b11, b12, b13, b14, b15] 1 1).env ++ q17_8.own.map fun t => (t, .unk), heap := (sKF ts [b0, b1, b2, b3, b4, b5, b6, b7, b8, b9, b10, b11, b12, b13, b14, b15] 1 1).heap ++ List.replicate q17_8.slots ⟨false, .unk⟩ } = some (s9F ts [b0, b1, b2, b3, b4, b5, b6, b7, b8, b9, b10, b11, b12, b13, b14, b15] 1 1) := by kernel_rfl
theorem e9F_1_1 (call : CallF) (ts : List Int) (b0 b1 b2 b3 b4 b5 b6 b7 b8 b9 b10 b11 b12 b13 b14 b15 x y : Int) : (runOps call (sKF ts [b0, b1, b2, b3, b4, b5, b6, b7, b8, b9, b10, b11, b12, b13, b14, b15] 1 1).heap.length (q17_8.ops.drop 10) (applyEff (s9F ts [b0, b1, b2, b3, b4, b5, b6, b7, b8, b9, b10, b11, b12, b13, b14, b15] 1 1) (some 31) { v := .tup [.int .i64 x, .int .i64 y] })).map (fun s => { s with env := s.env.take (sKF ts [b0, b1, b2, b3, b4, b5, b6, b7, b8, b9, b10, b11, b12, b13, b14, b15] 1 1).env.length }) = some (sKF ts (([b0, b1, b2, b3, b4, b5, b6, b7, b8, b9, b10, b11, b12, b13, b14, b15].set 1 x).set (1 + 2 ^ 1) y) 1 1) := by kernel_rfl
theorem e7F_1_4 (ts b : List Int) : runReg cB q17_7 (sGF ts b 1 4) = some (sKF ts b 1 4) := by kernel_rfl
theorem e8F_1_4 (call : CallF) (ts : List Int) (b0 b1 b2 b3 b4 b5 b6 b7 b8 b9 b10 b11 b12 b13 b14 b15 : Int) : runOps call (sKF ts [b0, b1, b2, b3, b4, b5, b6, b7, b8, b9, b10, b11, b12, b13, b14, b15] 1 4).heap.length (q17_8.ops.take 9) { sKF ts [b0, b1, b2, b3, b4, b5, b6, b7, b8, b9, b10, b11, b12, b13, b14, b15] 1 4 with env := (sKF ts [b0, b1, b2, b3, b4, b5, b6, b7, b8, b9, b10, b11, b12, b13, b14, b15] 1 4).env ++ q17_8.own.map fun t => (t, .unk), heap := (sKF ts [b0, b1, b2, b3, b4, b5, b6, b7, b8, b9, b10, b11, b12, b13, b14, b15] 1 4).heap ++ List.replicate q17_8.slots ⟨false, .unk⟩ } = some (s9F ts [b0, b1, b2, b3, b4, b5, b6, b7, b8, b9, b10, b11, b12, b13, b14, b15] 1 4) := by kernel_rfl
theorem e9F_1_4 (call : CallF) (ts : List Int) (b0 b1 b2 b3 b4 b5 b6 b7 b8 b9 b10 b11 b12 b13 b14 b15 x y : Int) : (runOps call (sKF ts [b0, b1, b2, b3, b4, b5, b6, b7, b8, b9, b10, b11, b12, b13, b14, b15] 1 4).heap.length (q17_8.ops.drop 10) (applyEff (s9F ts [b0, b1, b2, b3, b4, b5, b6, b7, b8, b9, b10, b11, b12, b13, b14, b15] 1 4) (some 31) { v := .tup [.int .i64 x, .int .i64 y] })).map (fun s => { s with env := s.env.take (sKF ts [b0, b1, b2, b3, b4, b5, b6, b7, b8, b9, b10, b11, b12, b13, b14, b15] 1 4).env.length }) = some (sKF ts (([b0, b1, b2, b3, b4, b5, b6, b7, b8, b9, b10, b11, b12, b13, b14, b15].set 4 x).set (4 + 2 ^ 1) y) 1 4) := by kernel_rfl
theorem e7F_1_5 (ts b : List Int) : runReg cB q17_7 (sGF ts b 1 5) = some (sKF ts b 1 5) := by kernel_rfl
theorem e8F_1_5 (call : CallF) (ts : List Int) (b0 b1 b2 b3 b4 b5 b6 b7 b8 b9 b10 b11 b12 b13 b14 b15 : Int) : runOps call (sKF ts [b0, b1, b2, b3, b4, b5, b6, b7, b8, b9, b10, b11, b12, b13, b14, b15] 1 5).heap.length (q17_8.ops.take 9) { sKF ts [b0, b1, b2, b3, b4, b5, b6, b7, b8, b9, b10, b11, b12, b13, b14, b15] 1 5 with env := (sKF ts [b0, b1, b2, b3, b4, b5, b6, b7, b8, b9, b10, b11, b12, b13, b14, b15] 1 5).env ++ q17_8.own.map fun t => (t, .unk), heap := (sKF ts [b0, b1, b2, b3, b4, b5, b6, b7, b8, b9, b10, b11, b12, b13, b14, b15] 1 5).heap ++ List.replicate q17_8.slots ⟨false, .unk⟩ } = some (s9F ts [b0, b1, b2, b3, b4, b5, b6, b7, b8, b9, b10, b11, b12, b13, b14, b15] 1 5) := by kernel_rfl
theorem e9F_1_5 (call : CallF) (ts : List Int) (b0 b1 b2 b3 b4 b5 b6 b7 b8 b9 b10 b11 b12 b13 b14 b15 x y : Int) : (runOps call (sKF ts [b0, b1, b2, b3, b4, b5, b6, b7, b8, b9, b10, b11, b12, b13, b14, b15] 1 5).heap.length (q17_8.ops.drop 10) (applyEff (s9F ts [b0, b1, b2, b3, b4, b5, b6, b7, b8, b9, b10, b11, b12, b13, b14, b15] 1 5) (some 31) { v := .tup [.int .i64 x, .int .i64 y] })).map (fun s => { s with env := s.env.take (sKF ts [b0, b1, b2, b3, b4, b5, b6, b7, b8, b9, b10, b11, b12, b13, b14, b15] 1 5).env.length }) = some (sKF ts (([b0, b1, b2, b3, b4, b5, b6, b7, b8, b9, b10, b11, b12, b13, b14, b15].set 5 x).set (5 + 2 ^ 1) y) 1 5) := by kernel_rfl
theorem e7F_1_8 (ts b : List Int) : runReg cB q17_7 (sGF ts b 1 8) = some (sKF ts b 1 8) := by kernel_rfl
theorem e8F_1_8 (call : CallF) (ts : List Int) (b0 b1 b2 b3 b4 b5 b6 b7 b8 b9 b10 b11 b12 b13 b14 b15 : Int) : runOps call (sKF ts [b0, b1, b2, b3, b4, b5, b6, b7, b8, b9, b10, b11, b12, b13, b14, b15] 1 8).heap.length (q17_8.ops.take 9) { sKF ts [b0, b1, b2, b3, b4, b5, b6, b7, b8, b9, b10, b11, b12, b13, b14, b15] 1 8 with env := (sKF ts [b0, b1, b2, b3, b4, b5, b6, b7, b8, b9, b10, b11, b12, b13, b14, b15] 1 8).env ++ q17_8.own.map fun t => (t, .unk), heap := (sKF ts [b0, b1, b2, b3, b4, b5, b6, b7, b8, b9, b10, b11, b12, b13, b14, b15] 1 8).heap ++ List.replicate q17_8.slots ⟨false, .unk⟩ } = some (s9F ts [b0, b1, b2, b3, b4, b5, b6, b7, b8, b9, b10, b11, b12, b13, b14, b15] 1 8) := by kernel_rfl
theorem e9F_1_8 (call : CallF) (ts : List Int) (b0 b1 b2 b3 b4 b5 b6 b7 b8 b9 b10 b11 b12 b13 b14 b15 x y : Int) : (runOps call (sKF ts [b0, b1, b2, b3, b4, b5, b6, b7, b8, b9, b10, b11, b12, b13, b14, b15] 1 8).heap.length (q17_8.ops.drop 10) (applyEff (s9F ts [b0, b1, b2, b3, b4, b5, b6, b7, b8, b9, b10, b11, b12, b13, b14, b15] 1 8) (some 31) { v := .tup [.int .i64 x, .int .i64 y] })).map (fun s => { s with env := s.env.take (sKF ts [b0, b1, b2, b3, b4, b5, b6, b7, b8, b9, b10, b11, b12, b13, b14, b15] 1 8).env.length }) = some (sKF ts (([b0, b1, b2, b3, b4, b5, b6, b7, b8, b9, b10, b11, b12, b13, b14, b15].set 8 x).set (8 + 2 ^ 1) y) 1 8) := by kernel_rfl
theorem e7F_1_9 (ts b : List Int) : runReg cB q17_7 (sGF ts b 1 9) = some (sKF ts b 1 9) := by kernel_rfl
theorem e8F_1_9 (call : CallF) (ts : List Int) (b0 b1 b2 b3 b4 b5 b6 b7 b8 b9 b10 b11 b12 b13 b14 b15 : Int) : runOps call (sKF ts [b0, b1, b2, b3, b4, b5, b6, b7, b8, b9, b10, b11, b12, b13, b14, b15] 1 9).heap.length (q17_8.ops.take 9) { sKF ts [b0, b1, b2, b3, b4, b5, b6, b7, b8, b9, b10, b11, b12, b13, b14, b15] 1 9 with env := (sKF ts [b0, b1, b2, b3, b4, b5, b6, b7, b8, b9, b10, b11, b12, b13, b14, b15] 1 9).env ++ q17_8.own.map fun t => (t, .unk), heap := (sKF ts [b0, b1, b2, b3, b4, b5, b6, b7, b8, b9, b10, b11, b12, b13, b14, b15] 1 9).heap ++ List.replicate q17_8.slots ⟨false, .unk⟩ } = some (s9F ts [b0, b1, b2, b3, b4, b5, b6, b7, b8, b9, b10, b11, b12, b13, b14, b15] 1 9) := by kernel_rfl
theorem e9F_1_9 (call : CallF) (ts : List Int) (b0 b1 b2 b3 b4 b5 b6 b7 b8 b9 b10 b11 b12 b13 b14 b15 x y : Int) : (runOps call (sKF ts [b0, b1, b2, b3, b4, b5, b6, b7, b8, b9, b10, b11, b12, b13, b14, b15] 1 9).heap.length (q17_8.ops.drop 10) (applyEff (s9F ts [b0, b1, b2, b3, b4, b5, b6, b7, b8, b9, b10, b11, b12, b13, b14, b15] 1 9) (some 31) { v := .tup [.int .i64 x, .int .i64 y] })).map (fun s => { s with env := s.env.take (sKF ts [b0, b1, b2, b3, b4, b5, b6, b7, b8, b9, b10, b11, b12, b13, b14, b15] 1 9).env.length }) = some (sKF ts (([b0, b1, b2, b3, b4, b5, b6, b7, b8, b9, b10, b11, b12, b13, b14, b15].set 9 x).set (9 + 2 ^ 1) y) 1 9) := by kernel_rfl
theorem e7F_1_12 (ts b : List Int) : runReg cB q17_7 (sGF ts b 1 12) = some (sKF ts b 1 12) := by kernel_rfl
theorem e8F_1_12 (call : CallF) (ts : List Int) (b0 b1 b2 b3 b4 b5 b6 b7 b8 b9 b10 b11 b12 b13 b14 b15 : Int) : runOps call (sKF ts [b0, b1, b2, b3, b4, b5, b6, b7, b8, b9, b10, b11, b12, b13, b14, b15] 1 12).heap.length (q17_8.ops.take 9) { sKF ts [b0, b1, b2, b3, b4, b5, b6, b7, b8, b9, b10, b11, b12, b13, b14, b15] 1 12 with env := (sKF ts [b0, b1, b2, b3, b4, b5, b6, b7, b8, b9, b10, b11, b12, b13, b14, b15] 1 12).env ++ q17_8.own.map fun t => (t, .unk), heap := (sKF ts [b0, b1, b2, b3, b4, b5, b6, b7, b8, b9, b10, b11, b12, b13, b14, b15] 1 12).heap ++ List.replicate q17_8.slots ⟨false, .unk⟩ } = some (s9F ts [b0, b1, b2, b3, b4, b5, b6, b7, b8, b9, b10, b11, b12, b13, b14, b15] 1 12) := by kernel_rfl
theorem e9F_1_12 (call : CallF) (ts : List Int) (b0 b1 b2 b3 b4 b5 b6 b7 b8 b9 b10 b11 b12 b13 b14 b15 x y : Int) : (runOps call (sKF ts [b0, b1, b2, b3, b4, b5, b6, b7, b8, b9, b10, b11, b12, b13, b14, b15] 1 12).heap.length (q17_8.ops.drop 10) (applyEff (s9F ts [b0, b1, b2, b3, b4, b5, b6, b7, b8, b9, b10, b11, b12, b13, b14, b15] 1 12) (some 31) { v := .tup [.int .i64 x, .int .i64 y] })).map (fun s => { s with env := s.env.take (sKF ts [b0, b1, b2, b3, b4, b5, b6, b7, b8, b9, b10, b11, b12, b13, b14, b15] 1 12).env.length }) = some (sKF ts (([b0, b1, b2, b3, b4, b5, b6, b7, b8, b9, b10, b11, b12, b13, b14, b15].set 12 x).set (12 + 2 ^ 1) y) 1 12) := by kernel_rfl
theorem e7F_1_13 (ts b : List Int) : runReg cB q17_7 (sGF ts b 1 13) = some (sKF ts b 1 13) := by kernel_rfl
theorem e8F_1_13 (call : CallF) (ts : List Int) (b0 b1 b2 b3 b4 b5 b6 b7 b8 b9 b10 b11 b12 b13 b14 b15 : Int) : runOps call (sKF ts [b0, b1, b2, b3, b4, b5, b6, b7, b8, b9, b10, b11, b12, b13, b14, b15] 1 13).heap.length (q17_8.ops.take 9) { sKF ts [b0, b1, b2, b3, b4, b5, b6, b7, b8, b9, b10, b11, b12, b13, b14, b15] 1 13 with env := (sKF ts [b0, b1, b2, b3, b4, b5, b6, b7, b8, b9, b10, b11, b12, b13, b14, b15] 1 13).env ++ q17_8.own.map fun t => (t, .unk), heap := (sKF ts [b0, b1, b2, b3, b4, b5, b6, b7, b8, b9, b10, b11, b12, b13, b14, b15] 1 13).heap ++ List.replicate q17_8.slots ⟨false, .unk⟩ } = some (s9F ts [b0, b1, b2, b3, b4, b5, b6, b7, b8, b9, b10, b11, b12, b13, b14, b15] 1 13) := by kernel_rfl
theorem e9F_1_13 (call : CallF) (ts : List Int) (b0 b1 b2 b3 b4 b5 b6 b7 b8 b9 b10 b11 b12 b13 b14 b15 x y : Int) : (runOps call (sKF ts [b0, b1, b2, b3, b4, b5, b6, b7, b8, b9, b10, b11, b12, b13, b14, b15] 1 13).heap.length (q17_8.ops.drop 10) (applyEff (s9F ts [b0, b1, b2, b3, b4, b5, b6, b7, b8, b9, b10, b11, b12, b13, b14, b15] 1 13) (some 31) { v := .tup [.int .i64 x, .int .i64 y] })).map (fun s => { s with env := s.env.take (sKF ts [b0, b1, b2, b3, b4, b5, b6, b7, b8, b9, b10, b11, b12, b13, b14, b15] 1 13).env.length }) = some (sKF ts (([b0, b1, b2, b3, b4, b5, b6, b7, b8, b9, b10, b11, b12, b13, b14, b15].set 13 x).set (13 + 2 ^ 1) y) 1 13) := by kernel_rfl
theorem e7F_2_0 (ts b : List Int) : runReg cB q17_7 (sGF ts b 2 0) = some (sKF ts b 2 0) := by kernel_rfl
theorem e8F_2_0 (call : CallF) (ts : List Int) (b0 b1 b2 b3 b4 b5 b6 b7 b8 b9 b10 b11 b12 b13 b14 b15 : Int) : runOps call (sKF ts [b0, b1, b2, b3, b4, b5, b6, b7, b8, b9, b10, b11, b12, b13, b14, b15] 2 0).heap.length (q17_8.ops.take 9) { sKF ts [b0, b1, b2, b3, b4, b5, b6, b7, b8, b9, b10, b11, b12, b13, b14, b15] 2 0 with env := (sKF ts [b0, b1, b2, b3, b4, b5, b6, b7, b8, b9, b10, b11, b12, b13, b14, b15] 2 0).env ++ q17_8.own.map fun t => (t, .unk), heap := (sKF ts [b0, b1, b2, b3, b4, b5, b6, b7, b8, b9, b10, b11, b12, b13, b14, b15] 2 0).heap ++ List.replicate q17_8.slots ⟨false, .unk⟩ } = some (s9F ts [b0, b1, b2, b3, b4, b5, b6, b7, b8, b9, b10, b11, b12, b13, b14, b15] 2 0) := by kernel_rfl
theorem e9F_2_0 (call : CallF) (ts : List Int) (b0 b1 b2 b3 b4 b5 b6 b7 b8 b9 b10 b11 b12 b13 b14 b15 x y : Int) : (runOps call (sKF ts [b0, b1, b2, b3, b4, b5, b6, b7, b8, b9, b10, b11, b12, b13, b14, b15] 2 0).heap.length (q17_8.ops.drop 10) (applyEff (s9F ts [b0, b1, b2, b3, b4, b5, b6, b7, b8, b9, b10, b11, b12, b13, b14, b15] 2 0) (some 31) { v := .tup [.int .i64 x, .int .i64 y] })).map (fun s => { s with env := s.env.take (sKF ts [b0, b1, b2, b3, b4, b5, b6, b7, b8, b9, b10, b11, b12, b13, b14, b15] 2 0).env.length }) = some (sKF ts (([b0, b1, b2, b3, b4, b5, b6, b7, b8, b9, b10, b11, b12, b13, b14, b15].set 0 x).set (0 + 2 ^ 2) y) 2 0) := by kernel_rfl
theorem e7F_2_1 (ts b : List Int) : runReg cB q17_7 (sGF ts b 2 1) = some (sKF ts b 2 1) := by kernel_rfl
theorem e8F_2_1 (call : CallF) (ts : List Int) (b0 b1 b2 b3 b4 b5 b6 b7 b8 b9 b10 b11 b12 b13 b14 b15 : Int) : runOps call (sKF ts [b0, b1, b2, b3, b4, b5, b6, b7, b8, b9, b10, b11, b12, b13, b14, b15] 2 1).heap.length (q17_8.ops.take 9) { sKF ts [b0, b1, b2, b3, b4, b5, b6, b7, b8, b9, b10, b11, b12, b13, b14, b15] 2 1 with env := (sKF ts [b0, b1, b2, b3, b4, b5, b6, b7, b8, b9, b10, b11, b12, b13, b14, b15] 2 1).env ++ q17_8.own.map fun t => (t, .unk), heap := (sKF ts [b0, b1, b2, b3, b4, b5, b6, b7, b8, b9, b10, b11, b12, b13, b14, b15] 2 1).heap ++ List.replicate q17_8.slots ⟨false, .unk⟩ } = some (s9F ts [b0, b1, b2, b3, b4, b5, b6, b7, b8, b9, b10, b11, b12, b13, b14, b15] 2 1) := by kernel_rfl
theorem e9F_2_1 (call : CallF) (ts : List Int) (b0 b1 b2 b3 b4 b5 b6 b7 b8 b9 b10 b11 b12 b13 b14 b15 x y : Int) : (runOps call (sKF ts [b0, b1, b2, b3, b4, b5, b6, b7, b8, b9, b10, b11, b12, b13, b14, b15] 2 1).heap.length (q17_8.ops.drop 10) (applyEff (s9F ts [b0, b1, b2, b3, b4, b5, b6, b7, b8, b9, b10, b11, b12, b13, b14, b15] 2 1) (some 31) { v := .tup [.int .i64 x, .int .i64 y] })).map (fun s => { s with env := s.env.take (sKF ts [b0, b1, b2, b3, b4, b5, b6, b7, b8, b9, b10, b11, b12, b13, b14, b15] 2 1).env.length }) = some (sKF ts (([b0, b1, b2, b3, b4, b5, b6, b7, b8, b9, b10, b11, b12, b13, b14, b15].set 1 x).set (1 + 2 ^ 2) y) 2 1) := by kernel_rfl
theorem e7F_2_2 (ts b : List Int) : runReg cB q17_7 (sGF ts b 2 2) = some (sKF ts b 2 2) := by kernel_rfl
theorem e8F_2_2 (call : CallF) (ts : List Int) (b0 b1 b2 b3 b4 b5 b6 b7 b8 b9 b10 b11 b12 b13 b14 b15 : Int) : runOps call (sKF ts [b0, b1, b2, b3, b4, b5, b6, b7, b8, b9, b10, b11, b12, b13, b14, b15] 2 2).heap.length (q17_8.ops.take 9) { sKF ts [b0, b1, b2, b3, b4, b5, b6, b7, b8, b9, b10, b11, b12, b13, b14, b15] 2 2 with env := (sKF ts [b0, b1, b2, b3, b4, b5, b6, b7, b8, b9, b10, b11, b12, b13, b14, b15] 2 2).env ++ q17_8.own.map fun t => (t, .unk), heap := (sKF ts [b0, b1, b2, b3, b4, b5, b6, b7, b8, b9, b10, b11, b12, b13, b14, b15] 2 2).heap ++ List.replicate q17_8.slots ⟨false, .unk⟩ } = some (s9F ts [b0, b1, b2, b3, b4, b5, b6, b7, b8, b9, b10, b11, b12, b13, b14, b15] 2 2) := by kernel_rfl
theorem e9F_2_2 (call : CallF) (ts : List Int) (b0 b1 b2 b3 b4 b5 b6 b7 b8 b9 b10 b11 b12 b13 b14 b15 x y : Int) : (runOps call (sKF ts [b0, b1, b2, b3, b4, b5, b6, b7, b8, b9, b10, b11, b12, b13, b14, b15] 2 2).heap.length (q17_8.ops.drop 10) (applyEff (s9F ts [b0, b1, b2, b3, b4, b5, b6, b7, b8, b9, b10, b11, b12, b13, b14, b15] 2 2) (some 31) { v := .tup [.int .i64 x, .int .i64 y] })).map (fun s => { s with env := s.env.take (sKF ts [b0, b1, b2, b3, b4, b5, b6, b7, b8, b9, b10, b11, b12, b13, b14, b15] 2 2).env.length }) = some (sKF ts (([b0, b1, b2, b3, b4, b5, b6, b7, b8, b9, b10, b11, b12, b13, b14, b15].set 2 x).set (2 + 2 ^ 2) y) 2 2) := by kernel_rfl
theorem e7F_2_3 (ts b : List Int) : runReg cB q17_7 (sGF ts b 2 3) = some (sKF ts b 2 3) := by kernel_rfl
theorem e8F_2_3 (call : CallF) (ts : List Int) (b0 b1 b2 b3 b4 b5 b6 b7 b8 b9 b10 b11 b12 b13 b14 b15 : Int) : runOps call (sKF ts [b0, b1, b2, b3, b4, b5, b6, b7, b8, b9, b10, b11, b12, b13, b14, b15] 2 3).heap.length (q17_8.ops.take 9) { sKF ts [b0, b1, b2, b3, b4, b5, b6, b7, b8, b9, b10, b11, b12, b13, b14, b15] 2 3 with env := (sKF ts [b0, b1, b2, b3, b4, b5, b6, b7, b8, b9, b10, b11, b12, b13, b14, b15] 2 3).env ++ q17_8.own.map fun t => (t, .unk), heap := (sKF ts [b0, b1, b2, b3, b4, b5, b6, b7, b8, b9, b10, b11, b12, b13, b14, b15] 2 3).heap ++ List.replicate q17_8.slots ⟨false, .unk⟩ } = some (s9F ts [b0, b1, b2, b3, b4, b5, b6, b7, b8, b9, b10, b11, b12, b13, b14, b15] 2 3) := by kernel_rfl
theorem e9F_2_3 (call : CallF) (ts : List Int) (b0 b1 b2 b3 b4 b5 b6 b7 b8 b9 b10 b11 b12 b13 b14 b15 x y : Int) : (runOps call (sKF ts [b0, b1, b2, b3, b4, b5, b6, b7, b8, b9, b10, b11, b12, b13, b14, b15] 2 3).heap.length (q17_8.ops.drop 10) (applyEff (s9F ts [b0, b1, b2, b3, b4, b5, b6, b7, b8, b9, b10, b11, b12, b13, b14, b15] 2 3) (some 31) { v := .tup [.int .i64 x, .int .i64 y] })).map (fun s => { s with env := s.env.take (sKF ts [b0, b1, b2, b3, b4, b5, b6, b7, b8, b9, b10, b11, b12, b13, b14, b15] 2 3).env.length }) = some (sKF ts (([b0, b1, b2, b3, b4, b5, b6, b7, b8, b9, b10, b11, b12, b13, b14, b15].set 3 x).set (3 + 2 ^ 2) y) 2 3) := by kernel_rfl
theorem e7F_2_8 (ts b : List Int) : runReg cB q17_7 (sGF ts b 2 8) = some (sKF ts b 2 8) := by kernel_rfl
theorem e8F_2_8 (call : CallF) (ts : List Int) (b0 b1 b2 b3 b4 b5 b6 b7 b8 b9 b10 b11 b12 b13 b14 b15 : Int) : runOps call (sKF ts [b0, b1, b2, b3, b4, b5, b6, b7, b8, b9, b10, b11, b12, b13, b14, b15] 2 8).heap.length (q17_8.ops.take 9) { sKF ts [b0, b1, b2, b3, b4, b5, b6, b7, b8, b9, b10, b11, b12, b13, b14, b15] 2 8 with env := (sKF ts [b0, b1, b2, b3, b4, b5, b6, b7, b8, b9, b10, b11, b12, b13, b14, b15] 2 8).env ++ q17_8.own.map fun t => (t, .unk), heap := (sKF ts [b0, b1, b2, b3, b4, b5, b6, b7, b8, b9, b10, b11, b12, b13, b14, b15] 2 8).heap ++ List.replicate q17_8.slots ⟨false, .unk⟩ } = some (s9F ts [b0, b1, b2, b3, b4, b5, b6, b7, b8, b9, b10, b11, b12, b13, b14, b15] 2 8) := by kernel_rfl
theorem e9F_2_8 (call : CallF) (ts : List Int) (b0 b1 b2 b3 b4 b5 b6 b7 b8 b9 b10 b11 b12 b13 b14 b15 x y : Int) : (runOps call (sKF ts [b0, b1, b2, b3, b4, b5, b6, b7, b8, b9, b10, b11, b12, b13, b14, b15] 2 8).heap.length (q17_8.ops.drop 10) (applyEff (s9F ts [b0, b1, b2, b3, b4, b5, b6, b7, b8, b9, b10, b11, b12, b13, b14, b15] 2 8) (some 31) { v := .tup [.int .i64 x, .int .i64 y] })).map (fun s => { s with env := s.env.take (sKF ts [b0, b1, b2, b3, b4, b5, b6, b7, b8, b9, b10, b11, b12, b13, b14, b15] 2 8).env.length }) = some (sKF ts (([b0, b1, b2, b3, b4, b5, b6, b7, b8, b9, b10, b11, b12, b13, b14, b15].set 8 x).set (8 + 2 ^ 2) y) 2 8) := by kernel_rfl
theorem e7F_2_9 (ts b : List Int) : runReg cB q17_7 (sGF ts b 2 9) = some (sKF ts b 2 9) := by kernel_rfl
theorem e8F_2_9 (call : CallF) (ts : List Int) (b0 b1 b2 b3 b4 b5 b6 b7 b8 b9 b10 b11 b12 b13 b14 b15 : Int) : runOps call (sKF ts [b0, b1, b2, b3, b4, b5, b6, b7, b8, b9, b10, b11, b12, b13, b14, b15] 2 9).heap.length (q17_8.ops.take 9) { sKF ts [b0, b1, b2, b3, b4, b5, b6, b7, b8, b9, b10, b11, b12, b13, b14, b15] 2 9 with env := (sKF ts [b0, b1, b2, b3, b4, b5, b6, b7, b8, b9, b10, b11, b12, b13, b14, b15] 2 9).env ++ q17_8.own.map fun t => (t, .unk), heap := (sKF ts [b0, b1, b2, b3, b4, b5, b6, b7, b8, b9, b10, b11, b12, b13, b14, b15] 2 9).heap ++ List.replicate q17_8.slots ⟨false, .unk⟩ } = some (s9F ts [b0, b1, b2, b3, b4, b5, b6, b7, b8, b9, b10, b11, b12, b13, b14, b15] 2 9) := by kernel_rfl
theorem e9F_2_9 (call : CallF) (ts : List Int) (b0 b1 b2 b3 b4 b5 b6 b7 b8 b9 b10 b11 b12 b13 b14 b15 x y : Int) : (runOps call (sKF ts [b0, b1, b2, b3, b4, b5, b6, b7, b8, b9, b10, b11, b12, b13, b14, b15] 2 9).heap.length (q17_8.ops.drop 10) (applyEff (s9F ts [b0, b1, b2, b3, b4, b5, b6, b7, b8, b9, b10, b11, b12, b13, b14, b15] 2 9) (some 31) { v := .tup [.int .i64 x, .int .i64 y] })).map (fun s => { s with env := s.env.take (sKF ts [b0, b1, b2, b3, b4, b5, b6, b7, b8, b9, b10, b11, b12, b13, b14, b15] 2 9).env.length }) = some (sKF ts (([b0, b1, b2, b3, b4, b5, b6, b7, b8, b9, b10, b11, b12, b13, b14, b15].set 9 x).set (9 + 2 ^ 2) y) 2 9) := by kernel_rfl
theorem e7F_2_10 (ts b : List Int) : runReg cB q17_7 (sGF ts b 2 10) = some (sKF ts b 2 10) := by kernel_rfl
theorem e8F_2_10 (call : CallF) (ts : List Int) (b0 b1 b2 b3 b4 b5 b6 b7 b8 b9 b10 b11 b12 b13 b14 b15 : Int) : runOps call (sKF ts [b0, b1, b2, b3, b4, b5, b6, b7, b8, b9, b10, b11, b12, b13, b14, b15] 2 10).heap.length (q17_8.ops.take 9) { sKF ts [b0, b1, b2, b3, b4, b5, b6, b7, b8, b9, b10, b11, b12, b13, b14, b15] 2 10 with env := (sKF ts [b0, b1, b2, b3, b4, b5, b6, b7, b8, b9, b10, b11, b12, b13, b14, b15] 2 10).env ++ q17_8.own.map fun t => (t, .unk), heap := (sKF ts [b0, b1, b2, b3, b4, b5, b6, b7, b8, b9, b10, b11, b12, b13, b14, b15] 2 10).heap ++ List.replicate q17_8.slots ⟨false, .unk⟩ } = some (s9F ts [b0, b1, b2, b3, b4, b5, b6, b7, b8, b9, b10, b11, b12, b13, b14, b15] 2 10) := by kernel_rfl
theorem e9F_2_10 (call : CallF) (ts : List Int) (b0 b1 b2 b3 b4 b5 b6 b7 b8 b9 b10 b11 b12 b13 b14 b15 x y : Int) : (runOps call (sKF ts [b0, b1, b2, b3, b4, b5, b6, b7, b8, b9, b10, b11, b12, b13, b14, b15] 2 10).heap.length (q17_8.ops.drop 10) (applyEff (s9F ts [b0, b1, b2, b3, b4, b5, b6, b7, b8, b9, b10, b11, b12, b13, b14, b15] 2 10) (some 31) { v := .tup [.int .i64 x, .int .i64 y] })).map (fun s => { s with env := s.env.take (sKF ts [b0, b1, b2, b3, b4, b5, b6, b7, b8, b9, b10, b11, b12, b13, b14, b15] 2 10).env.length }) = some (sKF ts (([b0, b1, b2, b3, b4, b5, b6, b7, b8, b9, b10, b11, b12, b13, b14, b15].set 10 x).set (10 + 2 ^ 2) y) 2 10) := by kernel_rfl
theorem e7F_2_11 (ts b : List Int) : runReg cB q17_7 (sGF ts b 2 11) = some (sKF ts b 2 11) := by kernel_rfl
theorem e8F_2_11 (call : CallF) (ts : List Int) (b0 b1 b2 b3 b4 b5 b6 b7 b8 b9 b10 b11 b12 b13 b14 b15 : Int) : runOps call (sKF ts [b0, b1, b2, b3, b4, b5, b6, b7, b8, b9, b10, b11, b12, b13, b14, b15] 2 11).heap.length (q17_8.ops.take 9) { sKF ts [b0, b1, b2, b3, b4, b5, b6, b7, b8, b9, b10, b11, b12, b13, b14, b15] 2 11 with env := (sKF ts [b0, b1, b2, b3, b4, b5, b6, b7, b8, b9, b10, b11, b12, b13, b14, b15] 2 11).env ++ q17_8.own.map fun t => (t, .unk), heap := (sKF ts [b0, b1, b2, b3, b4, b5, b6, b7, b8, b9, b10, b11, b12, b13, b14, b15] 2 11).heap ++ List.replicate q17_8.slots ⟨false, .unk⟩ } = some (s9F ts [b0, b1, b2, b3, b4, b5, b6, b7, b8, b9, b10, b11, b12, b13, b14, b15] 2 11) := by kernel_rfl
theorem e9F_2_11 (call : CallF) (ts : List Int) (b0 b1 b2 b3 b4 b5 b6 b7 b8 b9 b10 b11 b12 b13 b14 b15 x y : Int) : (runOps call (sKF ts [b0, b1, b2, b3, b4, b5, b6, b7, b8, b9, b10, b11, b12, b13, b14, b15] 2 11).heap.length (q17_8.ops.drop 10) (applyEff (s9F ts [b0, b1, b2, b3, b4, b5, b6, b7, b8, b9, b10, b11, b12, b13, b14, b15] 2 11) (some 31) { v := .tup [.int .i64 x, .int .i64 y] })).map (fun s => { s with env := s.env.take (sKF ts [b0, b1, b2, b3, b4, b5, b6, b7, b8, b9, b10, b11, b12, b13, b14, b15] 2 11).env.length }) = some (sKF ts (([b0, b1, b2, b3, b4, b5, b6, b7, b8, b9, b10, b11, b12, b13, b14, b15].set 11 x).set (11 + 2 ^ 2) y) 2 11) := by kernel_rfl
theorem e7F_3_0 (ts b : List Int) : runReg cB q17_7 (sGF ts b 3 0) = some (sKF ts b 3 0) := by kernel_rfl
theorem e8F_3_0 (call : CallF) (ts : List Int) (b0 b1 b2 b3 b4 b5 b6 b7 b8 b9 b10 b11 b12 b13 b14 b15 : Int) : runOps call (sKF ts [b0, b1, b2, b3, b4, b5, b6, b7, b8, b9, b10, b11, b12, b13, b14, b15] 3 0).heap.length (q17_8.ops.take 9) { sKF ts [b0, b1, b2, b3, b4, b5, b6, b7, b8, b9, b10, b11, b12, b13, b14, b15] 3 0 with env := (sKF ts [b0, b1, b2, b3, b4, b5, b6, b7, b8, b9, b10, b11, b12, b13, b14, b15] 3 0).env ++ q17_8.own.map fun t => (t, .unk), heap := (sKF ts [b0, b1, b2, b3, b4, b5, b6, b7, b8, b9, b10, b11, b12, b13, b14, b15] 3 0).heap ++ List.replicate q17_8.slots ⟨false, .unk⟩ } = some (s9F ts [b0, b1, b2, b3, b4, b5, b6, b7, b8, b9, b10, b11, b12, b13, b14, b15] 3 0) := by kernel_rfl
theorem e9F_3_0 (call : CallF) (ts : List Int) (b0 b1 b2 b3 b4 b5 b6 b7 b8 b9 b10 b11 b12 b13 b14 b15 x y : Int) : (runOps call (sKF ts [b0, b1, b2, b3, b4, b5, b6, b7, b8, b9, b10, b11, b12, b13, b14, b15] 3 0).heap.length (q17_8.ops.drop 10) (applyEff (s9F ts [b0, b1, b2, b3, b4, b5, b6, b7, b8, b9, b10, b11, b12, b13, b14, b15] 3 0) (some 31) { v := .tup [.int .i64 x, .int .i64 y] })).map (fun s => { s with env := s.env.take (sKF ts [b0, b1, b2, b3, b4, b5, b6, b7, b8, b9, b10, b11, b12, b13, b14, b15] 3 0).env.length }) = some (sKF ts (([b0, b1, b2, b3, b4, b5, b6, b7, b8, b9, b10, b11, b12, b13, b14, b15].set 0 x).set (0 + 2 ^ 3) y) 3 0) := by kernel_rfl
theorem e7F_3_1 (ts b : List Int) : runReg cB q17_7 (sGF ts b 3 1) = some (sKF ts b 3 1) := by kernel_rfl
theorem e8F_3_1 (call : CallF) (ts : List Int) (b0 b1 b2 b3 b4 b5 b6 b7 b8 b9 b10 b11 b12 b13 b14 b15 : Int) : runOps call (sKF ts [b0, b1, b2, b3, b4, b5, b6, b7, b8, b9, b10, b11, b12, b13, b14, b15] 3 1).heap.length (q17_8.ops.take 9) { sKF ts [b0, b1, b2, b3, b4, b5, b6, b7, b8, b9, b10, b11, b12, b13, b14, b15] 3 1 with env := (sKF ts [b0, b1, b2, b3, b4, b5, b6, b7, b8, b9, b10, b11, b12, b13, b14, b15] 3 1).env ++ q17_8.own.map fun t => (t, .unk), heap := (sKF ts [b0, b1, b2, b3, b4, b5, b6, b7, b8, b9, b10, b11, b12, b13, b14, b15] 3 1).heap ++ List.replicate q17_8.slots ⟨false, .unk⟩ } = some (s9F ts [b0, b1, b2, b3, b4, b5, b6, b7, b8, b9, b10, b11, b12, b13, b14, b15] 3 1) := by kernel_rfl
theorem e9F_3_1 (call : CallF) (ts : List Int) (b0 b1 b2 b3 b4 b5 b6 b7 b8 b9 b10 b11 b12 b13 b14 b15 x y : Int) : (runOps call (sKF ts [b0, b1, b2, b3, b4, b5, b6, b7, b8, b9, b10, b11, b12, b13, b14, b15] 3 1).heap.length (q17_8.ops.drop 10) (applyEff (s9F ts [b0, b1, b2, b3, b4, b5, b6, b7, b8, b9, b10, b11, b12, b13, b14, b15] 3 1) (some 31) { v := .tup [.int .i64 x, .int .i64 y] })).map (fun s => { s with env := s.env.take (sKF ts [b0, b1, b2, b3, b4, b5, b6, b7, b8, b9, b10, b11, b12, b13, b14, b15] 3 1).env.length }) = some (sKF ts (([b0, b1, b2, b3, b4, b5, b6, b7, b8, b9, b10, b11, b12, b13, b14, b15].set 1 x).set (1 + 2 ^ 3) y) 3 1) := by kernel_rfl
theorem e7F_3_2 (ts b : List Int) : runReg cB q17_7 (sGF ts b 3 2) = some (sKF ts b 3 2) := by kernel_rfl
theorem e8F_3_2 (call : CallF) (ts : List Int) (b0 b1 b2 b3 b4 b5 b6 b7 b8 b9 b10 b11 b12 b13 b14 b15 : Int) : runOps call (sKF ts [b0, b1, b2, b3, b4, b5, b6, b7, b8, b9, b10, b11, b12, b13, b14, b15] 3 2).heap.length (q17_8.ops.take 9) { sKF ts [b0, b1, b2, b3, b4, b5, b6, b7, b8, b9, b10, b11, b12, b13, b14, b15] 3 2 with env := (sKF ts [b0, b1, b2, b3, b4, b5, b6, b7, b8, b9, b10, b11, b12, b13, b14, b15] 3 2).env ++ q17_8.own.map fun t => (t, .unk), heap := (sKF ts [b0, b1, b2, b3, b4, b5, b6, b7, b8, b9, b10, b11, b12, b13, b14, b15] 3 2).heap ++ List.replicate q17_8.slots ⟨false, .unk⟩ } = some (s9F ts [b0, b1, b2, b3, b4, b5, b6, b7, b8, b9, b10, b11, b12, b13, b14, b15] 3 2) := by kernel_rfl
theorem e9F_3_2 (call : CallF) (ts : List Int) (b0 b1 b2 b3 b4 b5 b6 b7 b8 b9 b10 b11 b12 b13 b14 b15 x y : Int) : (runOps call (sKF ts [b0, b1, b2, b3, b4, b5, b6, b7, b8, b9, b10, b11, b12, b13, b14, b15] 3 2).heap.length (q17_8.ops.drop 10) (applyEff (s9F ts [b0, b1, b2, b3, b4, b5, b6, b7, b8, b9, b10, b11, b12, b13, b14, b15] 3 2) (some 31) { v := .tup [.int .i64 x, .int .i64 y] })).map (fun s => { s with env := s.env.take (sKF ts [b0, b1, b2, b3, b4, b5, b6, b7, b8, b9, b10, b11, b12, b13, b14, b15] 3 2).env.length }) = some (sKF ts (([b0, b1, b2, b3, b4, b5, b6, b7, b8, b9, b10, b11, b12, b13, b14, b15].set 2 x).set (2 + 2 ^ 3) y) 3 2) := by kernel_rfl
theorem e7F_3_3 (ts b : List Int) : runReg cB q17_7 (sGF ts b 3 3) = some (sKF ts b 3 3) := by kernel_rfl
theorem e8F_3_3 (call : CallF) (ts : List Int) (b0 b1 b2 b3 b4 b5 b6 b7 b8 b9 b10 b11 b12 b13 b14 b15 : Int) : runOps call (sKF ts [b0, b1, b2, b3, b4, b5, b6, b7, b8, b9, b10, b11, b12, b13, b14, b15] 3 3).heap.length (q17_8.ops.take 9) { sKF ts [b0, b1, b2, b3, b4, b5, b6, b7, b8, b9, b10, b11, b12, b13, b14, b15] 3 3 with env := (sKF ts [b0, b1, b2, b3, b4, b5, b6, b7, b8, b9, b10, b11, b12, b13, b14, b15] 3 3).env ++ q17_8.own.map fun t => (t, .unk), heap := (sKF ts [b0, b1, b2, b3, b4, b5, b6, b7, b8, b9, b10, b11, b12, b13, b14, b15] 3 3).heap ++ List.replicate q17_8.slots ⟨false, .unk⟩ } = some (s9F ts [b0, b1, b2, b3, b4, b5, b6, b7, b8, b9, b10, b11, b12, b13, b14, b15] 3 3) := by kernel_rfl
theorem e9F_3_3 (call : CallF) (ts : List Int) (b0 b1 b2 b3 b4 b5 b6 b7 b8 b9 b10 b11 b12 b13 b14 b15 x y : Int) : (runOps call (sKF ts [b0, b1, b2, b3, b4, b5, b6, b7, b8, b9, b10, b11, b12, b13, b14, b15] 3 3).heap.length (q17_8.ops.drop 10) (applyEff (s9F ts [b0, b1, b2, b3, b4, b5, b6, b7, b8, b9, b10, b11, b12, b13, b14, b15] 3 3) (some 31) { v := .tup [.int .i64 x, .int .i64 y] })).map (fun s => { s with env := s.env.take (sKF ts [b0, b1, b2, b3, b4, b5, b6, b7, b8, b9, b10, b11, b12, b13, b14, b15] 3 3).env.length }) = some (sKF ts (([b0, b1, b2, b3, b4, b5, b6, b7, b8, b9, b10, b11, b12, b13, b14, b15].set 3 x).set (3 + 2 ^ 3) y) 3 3) := by kernel_rfl
theorem e7F_3_4 (ts b : List Int) : runReg cB q17_7 (sGF ts b 3 4) = some (sKF ts b 3 4) := by kernel_rfl
theorem e8F_3_4 (call : CallF) (ts : List Int) (b0 b1 b2 b3 b4 b5 b6 b7 b8 b9 b10 b11 b12 b13 b14 b15 : Int) : runOps call (sKF ts [b0, b1, b2, b3, b4, b5, b6, b7, b8, b9, b10, b11, b12, b13, b14, b15] 3 4).heap.length (q17_8.ops.take 9) { sKF ts [b0, b1, b2, b3, b4, b5, b6, b7, b8, b9, b10, b11, b12, b13, b14, b15] 3 4 with env := (sKF ts [b0, b1, b2, b3, b4, b5, b6, b7, b8, b9, b10, b11, b12, b13, b14, b15] 3 4).env ++ q17_8.own.map fun t => (t, .unk), heap := (sKF ts [b0, b1, b2, b3, b4, b5, b6, b7, b8, b9, b10, b11, b12, b13, b14, b15] 3 4).heap ++ List.replicate q17_8.slots ⟨false, .unk⟩ } = some (s9F ts [b0, b1, b2, b3, b4, b5, b6, b7, b8, b9, b10, b11, b12, b13, b14, b15] 3 4) := by kernel_rfl
theorem e9F_3_4 (call : CallF) (ts : List Int) (b0 b1 b2 b3 b4 b5 b6 b7 b8 b9 b10 b11 b12 b13 b14 b15 x y : Int) : (runOps call (sKF ts [b0, b1, b2, b3, b4, b5, b6, b7, b8, b9, b10, b11, b12, b13, b14, b15] 3 4).heap.length (q17_8.ops.drop 10) (applyEff (s9F ts [b0, b1, b2, b3, b4, b5, b6, b7, b8, b9, b10, b11, b12, b13, b14, b15] 3 4) (some 31) { v := .tup [.int .i64 x, .int .i64 y] })).map (fun s => { s with env := s.env.take (sKF ts [b0, b1, b2, b3, b4, b5, b6, b7, b8, b9, b10, b11, b12, b13, b14, b15] 3 4).env.length }) = some (sKF ts (([b0, b1, b2, b3, b4, b5, b6, b7, b8, b9, b10, b11, b12, b13, b14, b15].set 4 x).set (4 + 2 ^ 3) y) 3 4) := by kernel_rfl
theorem e7F_3_5 (ts b : List Int) : runReg cB q17_7 (sGF ts b 3 5) = some (sKF ts b 3 5) := by kernel_rfl
theorem e8F_3_5 (call : CallF) (ts : List Int) (b0 b1 b2 b3 b4 b5 b6 b7 b8 b9 b10 b11 b12 b13 b14 b15 : Int) : runOps call (sKF ts [b0, b1, b2, b3, b4, b5, b6, b7, b8, b9, b10, b11, b12, b13, b14, b15] 3 5).heap.length (q17_8.ops.take 9) { sKF ts [b0, b1, b2, b3, b4, b5, b6, b7, b8, b9, b10, b11, b12, b13, b14, b15] 3 5 with env := (sKF ts [b0, b1, b2, b3, b4, b5, b6, b7, b8, b9, b10, b11, b12, b13, b14, b15] 3 5).env ++ q17_8.own.map fun t => (t, .unk), heap := (sKF ts [b0, b1, b2, b3, b4, b5, b6, b7, b8, b9, b10, b11, b12, b13, b14, b15] 3 5).heap ++ List.replicate q17_8.slots ⟨false, .unk⟩ } = some (s9F ts [b0, b1, b2, b3, b4, b5, b6, b7, b8, b9, b10, b11, b12, b13, b14, b15] 3 5) := by kernel_rfl
theorem e9F_3_5 (call : CallF) (ts : List Int) (b0 b1 b2 b3 b4 b5 b6 b7 b8 b9 b10 b11 b12 b13 b14 b15 x y : Int) : (runOps call (sKF ts [b0, b1, b2, b3, b4, b5, b6, b7, b8, b9, b10, b11, b12, b13, b14, b15] 3 5).heap.length (q17_8.ops.drop 10) (applyEff (s9F ts [b0, b1, b2, b3, b4, b5, b6, b7, b8, b9, b10, b11, b12, b13, b14, b15] 3 5) (some 31) { v := .tup [.int .i64 x, .int .i64 y] })).map (fun s => { s with env := s.env.take (sKF ts [b0, b1, b2, b3, b4, b5, b6, b7, b8, b9, b10, b11, b12, b13, b14, b15] 3 5).env.length }) = some (sKF ts (([b0, b1, b2, b3, b4, b5, b6, b7, b8, b9, b10, b11, b12, b13, b14, b15].set 5 x).set (5 + 2 ^ 3) y) 3 5) := by kernel_rfl
theorem e7F_3_6 (ts b : List Int) : runReg cB q17_7 (sGF ts b 3 6) = some (sKF ts b 3 6) := by kernel_rfl
theorem e8F_3_6 (call : CallF) (ts : List Int) (b0 b1 b2 b3 b4 b5 b6 b7 b8 b9 b10 b11 b12 b13 b14 b15 : Int) : runOps call (sKF ts [b0, b1, b2, b3, b4, b5, b6, b7, b8, b9, b10, b11, b12, b13, b14, b15] 3 6).heap.length (q17_8.ops.take 9) { sKF ts [b0, b1, b2, b3, b4, b5, b6, b7, b8, b9, b10, b11, b12, b13, b14, b15] 3 6 with env := (sKF ts [b0, b1, b2, b3, b4, b5, b6, b7, b8, b9, b10, b11, b12, b13, b14, b15] 3 6).env ++ q17_8.own.map fun t => (t, .unk), heap := (sKF ts [b0, b1, b2, b3, b4, b5, b6, b7, b8, b9, b10, b11, b12, b13, b14, b15] 3 6).heap ++ List.replicate q17_8.slots ⟨false, .unk⟩ } = some (s9F ts [b0, b1, b2, b3, b4, b5, b6, b7, b8, b9, b10, b11, b12, b13, b14, b15] 3 6) := by kernel_rfl
theorem e9F_3_6 (call : CallF) (ts : List Int) (b0 b1 b2 b3 b4 b5 b6 b7 b8 b9 b10 b11 b12 b13 b14 b15 x y : Int) : (runOps call (sKF ts [b0, b1, b2, b3, b4, b5, b6, b7, b8, b9, b10, b11, b12, b13, b14, b15] 3 6).heap.length (q17_8.ops.drop 10) (applyEff (s9F ts [b0, b1, b2, b3, b4, b5, b6, b7, b8, b9, b10, b11, b12, b13, b14, b15] 3 6) (some 31) { v := .tup [.int .i64 x, .int .i64 y] })).map (fun s => { s with env := s.env.take (sKF ts [b0, b1, b2, b3, b4, b5, b6, b7, b8, b9, b10, b11, b12, b13, b14, b15] 3 6).env.length }) = some (sKF ts (([b0, b1, b2, b3, b4, b5, b6, b7, b8, b9, b10, b11, b12, b13, b14, b15].set 6 x).set (6 + 2 ^ 3) y) 3 6) := by kernel_rfl
theorem e7F_3_7 (ts b : List Int) : runReg cB q17_7 (sGF ts b 3 7) = some (sKF ts b 3 7) := by kernel_rfl
theorem e8F_3_7 (call : CallF) (ts : List Int) (b0 b1 b2 b3 b4 b5 b6 b7 b8 b9 b10 b11 b12 b13 b14 b15 : Int) : runOps call (sKF ts [b0, b1, b2, b3, b4, b5, b6, b7, b8, b9, b10, b11, b12, b13, b14, b15] 3 7).heap.length (q17_8.ops.take 9) { sKF ts [b0, b1, b2, b3, b4, b5, b6, b7, b8, b9, b10, b11, b12, b13, b14, b15] 3 7 with env := (sKF ts [b0, b1, b2, b3, b4, b5, b6, b7, b8, b9, b10, b11, b12, b13, b14, b15] 3 7).env ++ q17_8.own.map fun t => (t, .unk), heap := (sKF ts [b0, b1, b2, b3, b4, b5, b6, b7, b8, b9, b10, b11, b12, b13, b14, b15] 3 7).heap ++ List.replicate q17_8.slots ⟨false, .unk⟩ } = some (s9F ts [b0, b1, b2, b3, b4, b5, b6, b7, b8, b9, b10, b11, b12, b13, b14, b15] 3 7) := by kernel_rfl
theorem e9F_3_7 (call : CallF) (ts : List Int) (b0 b1 b2 b3 b4 b5 b6 b7 b8 b9 b10 b11 b12 b13 b14 b15 x y : Int) : (runOps call (sKF ts [b0, b1, b2, b3, b4, b5, b6, b7, b8, b9, b10, b11, b12, b13, b14, b15] 3 7).heap.length (q17_8.ops.drop 10) (applyEff (s9F ts [b0, b1, b2, b3, b4, b5, b6, b7, b8, b9, b10, b11, b12, b13, b14, b15] 3 7) (some 31) { v := .tup [.int .i64 x, .int .i64 y] })).map (fun s => { s with env := s.env.take (sKF ts [b0, b1, b2, b3, b4, b5, b6, b7, b8, b9, b10, b11, b12, b13, b14, b15] 3 7).env.length }) = some (sKF ts (([b0, b1, b2, b3, b4, b5, b6, b7, b8, b9, b10, b11, b12, b13, b14, b15].set 7 x).set (7 + 2 ^ 3) y) 3 7) := by kernel_rfl
theorem e7F (ts b : List Int) (r i : Nat) (hr : r < 4) (hi : i < 16) (h : isP r i = true) : runReg cB q17_7 (sGF ts b r i) = some (sKF ts b r i) := by
  match r, i, hr, hi, h with
  | 0, 0, _, _, _ => exact e7F_0_0 ts b
  | 0, 1, _, _, h => exact absurd h (by decide)
  | 0, 2, _, _, _ => exact e7F_0_2 ts b
  | 0, 3, _, _, h => exact absurd h (by decide)
  | 0, 4, _, _, _ => exact e7F_0_4 ts b
  | 0, 5, _, _, h => exact absurd h (by decide)
  | 0, 6, _, _, _ => exact e7F_0_6 ts b
  | 0, 7, _, _, h => exact absurd h (by decide)
  | 0, 8, _, _, _ => exact e7F_0_8 ts b
  | 0, 9, _, _, h => exact absurd h (by decide)
  | 0, 10, _, _, _ => exact e7F_0_10 ts b
  | 0, 11, _, _, h => exact absurd h (by decide)
  | 0, 12, _, _, _ => exact e7F_0_12 ts b
  | 0, 13, _, _, h => exact absurd h (by decide)
  | 0, 14, _, _, _ => exact e7F_0_14 ts b
  | 0, 15, _, _, h => exact absurd h (by decide)
  | 1, 0, _, _, _ => exact e7F_1_0 ts b
  | 1, 1, _, _, _ => exact e7F_1_1 ts b
  | 1, 2, _, _, h => exact absurd h (by decide)
  | 1, 3, _, _, h => exact absurd h (by decide)
  | 1, 4, _, _, _ => exact e7F_1_4 ts b
  | 1, 5, _, _, _ => exact e7F_1_5 ts b
  | 1, 6, _, _, h => exact absurd h (by decide)
  | 1, 7, _, _, h => exact absurd h (by decide)
  | 1, 8, _, _, _ => exact e7F_1_8 ts b
  | 1, 9, _, _, _ => exact e7F_1_9 ts b
  | 1, 10, _, _, h => exact absurd h (by decide)
  | 1, 11, _, _, h => exact absurd h (by decide)
  | 1, 12, _, _, _ => exact e7F_1_12 ts b
  | 1, 13, _, _, _ => exact e7F_1_13 ts b
  | 1, 14, _, _, h => exact absurd h (by decide)
  | 1, 15, _, _, h => exact absurd h (by decide)
  | 2, 0, _, _, _ => exact e7F_2_0 ts b
  | 2, 1, _, _, _ => exact e7F_2_1 ts b
  | 2, 2, _, _, _ => exact e7F_2_2 ts b
  | 2, 3, _, _, _ => exact e7F_2_3 ts b
  | 2, 4, _, _, h => exact absurd h (by decide)
  | 2, 5, _, _, h => exact absurd h (by decide)
  | 2, 6, _, _, h => exact absurd h (by decide)
  | 2, 7, _, _, h => exact absurd h (by decide)
  | 2, 8, _, _, _ => exact e7F_2_8 ts b
  | 2, 9, _, _, _ => exact e7F_2_9 ts b
  | 2, 10, _, _, _ => exact e7F_2_10 ts b
  | 2, 11, _, _, _ => exact e7F_2_11 ts b
  | 2, 12, _, _, h => exact absurd h (by decide)
  | 2, 13, _, _, h => exact absurd h (by decide)
  | 2, 14, _, _, h => exact absurd h (by decide)
  | 2, 15, _, _, h => exact absurd h (by decide)
  | 3, 0, _, _, _ => exact e7F_3_0 ts b
  | 3, 1, _, _, _ => exact e7F_3_1 ts b
  | 3, 2, _, _, _ => exact e7F_3_2 ts b
  | 3, 3, _, _, _ => exact e7F_3_3 ts b
  | 3, 4, _, _, _ => exact e7F_3_4 ts b
  | 3, 5, _, _, _ => exact e7F_3_5 ts b
  | 3, 6, _, _, _ => exact e7F_3_6 ts b
  | 3, 7, _, _, _ => exact e7F_3_7 ts b
  | 3, 8, _, _, h => exact absurd h (by decide)
  | 3, 9, _, _, h => exact absurd h (by decide)
  | 3, 10, _, _, h => exact absurd h (by decide)
  | 3, 11, _, _, h => exact absurd h (by decide)
  | 3, 12, _, _, h => exact absurd h (by decide)
  | 3, 13, _, _, h => exact absurd h (by decide)
  | 3, 14, _, _, h => exact absurd h (by decide)
  | 3, 15, _, _, h => exact absurd h (by decide)
  | r, i + 16, _, h, _ => exact absurd h (by omega)
  | r + 4, i, h, _, _ => exact absurd h (by omega)
theorem e8F (call : CallF) (ts b : List Int) (hb : b.length = 16) (r i : Nat) (hr : r < 4) (hi : i < 16) (h : isP r i = true) : runOps call (sKF ts b r i).heap.length (q17_8.ops.take 9) { sKF ts b r i with env := (sKF ts b r i).env ++ q17_8.own.map fun t => (t, .unk), heap := (sKF ts b r i).heap ++ List.replicate q17_8.slots ⟨false, .unk⟩ } = some (s9F ts b r i) := by
  obtain ⟨b0, b1, b2, b3, b4, b5, b6, b7, b8, b9, b10, b11, b12, b13, b14, b15, rfl⟩ := len16 hb
  match r, i, hr, hi, h with
  | 0, 0, _, _, _ => exact e8F_0_0 call ts b0 b1 b2 b3 b4 b5 b6 b7 b8 b9 b10 b11 b12 b13 b14 b15
  | 0, 1, _, _, h => exact absurd h (by decide)
  | 0, 2, _, _, _ => exact e8F_0_2 call ts b0 b1 b2 b3 b4 b5 b6 b7 b8 b9 b10 b11 b12 b13 b14 b15
  | 0, 3, _, _, h => exact absurd h (by decide)
  | 0, 4, _, _, _ => exact e8F_0_4 call ts b0 b1 b2 b3 b4 b5 b6 b7 b8 b9 b10 b11 b12 b13 b14 b15
  | 0, 5, _, _, h => exact absurd h (by decide)
  | 0, 6, _, _, _ => exact e8F_0_6 call ts b0 b1 b2 b3 b4 b5 b6 b7 b8 b9 b10 b11 b12 b13 b14 b15
  | 0, 7, _, _, h => exact absurd h (by decide)
  | 0, 8, _, _, _ => exact e8F_0_8 call ts b0 b1 b2 b3 b4 b5 b6 b7 b8 b9 b10 b11 b12 b13 b14 b15
  | 0, 9, _, _, h => exact absurd h (by decide)
  | 0, 10, _, _, _ => exact e8F_0_10 call ts b0 b1 b2 b3 b4 b5 b6 b7 b8 b9 b10 b11 b12 b13 b14 b15
  | 0, 11, _, _, h => exact absurd h (by decide)
  | 0, 12, _, _, _ => exact e8F_0_12 call ts b0 b1 b2 b3 b4 b5 b6 b7 b8 b9 b10 b11 b12 b13 b14 b15
  | 0, 13, _, _, h => exact absurd h (by decide)
  | 0, 14, _, _, _ => exact e8F_0_14 call ts b0 b1 b2 b3 b4 b5 b6 b7 b8 b9 b10 b11 b12 b13 b14 b15
  | 0, 15, _, _, h => exact absurd h (by decide)
  | 1, 0, _, _, _ => exact e8F_1_0 call ts b0 b1 b2 b3 b4 b5 b6 b7 b8 b9 b10 b11 b12 b13 b14 b15
  | 1, 1, _, _, _ => exact e8F_1_1 call ts b0 b1 b2 b3 b4 b5 b6 b7 b8 b9 b10 b11 b12 b13 b14 b15
  | 1, 2, _, _, h => exact absurd h (by decide)
  | 1, 3, _, _, h => exact absurd h (by decide)
  | 1, 4, _, _, _ => exact e8F_1_4 call ts b0 b1 b2 b3 b4 b5 b6 b7 b8 b9 b10 b11 b12 b13 b14 b15
  | 1, 5, _, _, _ => exact e8F_1_5 call ts b0 b1 b2 b3 b4 b5 b6 b7 b8 b9 b10 b11 b12 b13 b14 b15
  | 1, 6, _, _, h => exact absurd h (by decide)
  | 1, 7, _, _, h => exact absurd h (by decide)
  | 1, 8, _, _, _ => exact e8F_1_8 call ts b0 b1 b2 b3 b4 b5 b6 b7 b8 b9 b10 b11 b12 b13 b14 b15
  | 1, 9, _, _, _ => exact e8F_1_9 call ts b0 b1 b2 b3 b4 b5 b6 b7 b8 b9 b10 b11 b12 b13 b14 b15
  | 1, 10, _, _, h => exact absurd h (by decide)
  | 1, 11, _, _, h => exact absurd h (by decide)
  | 1, 12, _, _, _ => exact e8F_1_12 call ts b0 b1 b2 b3 b4 b5 b6 b7 b8 b9 b10 b11 b12 b13 b14 b15
  | 1, 13, _, _, _ => exact e8F_1_13 call ts b0 b1 b2 b3 b4 b5 b6 b7 b8 b9 b10 b11 b12 b13 b14 b15
  | 1, 14, _, _, h => exact absurd h (by decide)
  | 1, 15, _, _, h => exact absurd h (by decide)
  | 2, 0, _, _, _ => exact e8F_2_0 call ts b0 b1 b2 b3 b4 b5 b6 b7 b8 b9 b10 b11 b12 b13 b14 b15
  | 2, 1, _, _, _ => exact e8F_2_1 call ts b0 b1 b2 b3 b4 b5 b6 b7 b8 b9 b10 b11 b12 b13 b14 b15
  | 2, 2, _, _, _ => exact e8F_2_2 call ts b0 b1 b2 b3 b4 b5 b6 b7 b8 b9 b10 b11 b12 b13 b14 b15
  | 2, 3, _, _, _ => exact e8F_2_3 call ts b0 b1 b2 b3 b4 b5 b6 b7 b8 b9 b10 b11 b12 b13 b14 b15
  | 2, 4, _, _, h => exact absurd h (by decide)
  | 2, 5, _, _, h => exact absurd h (by decide)
  | 2, 6, _, _, h => exact absurd h (by decide)
  | 2, 7, _, _, h => exact absurd h (by decide)
  | 2, 8, _, _, _ => exact e8F_2_8 call ts b0 b1 b2 b3 b4 b5 b6 b7 b8 b9 b10 b11 b12 b13 b14 b15
  | 2, 9, _, _, _ => exact e8F_2_9 call ts b0 b1 b2 b3 b4 b5 b6 b7 b8 b9 b10 b11 b12 b13 b14 b15
  | 2, 10, _, _, _ => exact e8F_2_10 call ts b0 b1 b2 b3 b4 b5 b6 b7 b8 b9 b10 b11 b12 b13 b14 b15
  | 2, 11, _, _, _ => exact e8F_2_11 call ts b0 b1 b2 b3 b4 b5 b6 b7 b8 b9 b10 b11 b12 b13 b14 b15
  | 2, 12, _, _, h => exact absurd h (by decide)
  | 2, 13, _, _, h => exact absurd h (by decide)
  | 2, 14, _, _, h => exact absurd h (by decide)
  | 2, 15, _, _, h => exact absurd h (by decide)
  | 3, 0, _, _, _ => exact e8F_3_0 call ts b0 b1 b2 b3 b4 b5 b6 b7 b8 b9 b10 b11 b12 b13 b14 b15
  | 3, 1, _, _, _ => exact e8F_3_1 call ts b0 b1 b2 b3 b4 b5 b6 b7 b8 b9 b10 b11 b12 b13 b14 b15
  | 3, 2, _, _, _ => exact e8F_3_2 call ts b0 b1 b2 b3 b4 b5 b6 b7 b8 b9 b10 b11 b12 b13 b14 b15
  | 3, 3, _, _, _ => exact e8F_3_3 call ts b0 b1 b2 b3 b4 b5 b6 b7 b8 b9 b10 b11 b12 b13 b14 b15
  | 3, 4, _, _, _ => exact e8F_3_4 call ts b0 b1 b2 b3 b4 b5 b6 b7 b8 b9 b10 b11 b12 b13 b14 b15
  | 3, 5, _, _, _ => exact e8F_3_5 call ts b0 b1 b2 b3 b4 b5 b6 b7 b8 b9 b10 b11 b12 b13 b14 b15
  | 3, 6, _, _, _ => exact e8F_3_6 call ts b0 b1 b2 b3 b4 b5 b6 b7 b8 b9 b10 b11 b12 b13 b14 b15
  | 3, 7, _, _, _ => exact e8F_3_7 call ts b0 b1 b2 b3 b4 b5 b6 b7 b8 b9 b10 b11 b12 b13 b14 b15
  | 3, 8, _, _, h => exact absurd h (by decide)
  | 3, 9, _, _, h => exact absurd h (by decide)
  | 3, 10, _, _, h => exact absurd h (by decide)
  | 3, 11, _, _, h => exact absurd h (by decide)
  | 3, 12, _, _, h => exact absurd h (by decide)
  | 3, 13, _, _, h => exact absurd h (by decide)
  | 3, 14, _, _, h => exact absurd h (by decide)
  | 3, 15, _, _, h => exact absurd h (by decide)
  | r, i + 16, _, h, _ => exact absurd h (by omega)
  | r + 4, i, h, _, _ => exact absurd h (by omega)
theorem e9F (call : CallF) (ts b : List Int) (hb : b.length = 16) (x y : Int) (r i : Nat) (hr : r < 4) (hi : i < 16) (h : isP r i = true) : (runOps call (sKF ts b r i).heap.length (q17_8.ops.drop 10) (applyEff (s9F ts b r i) (some 31) { v := .tup [.int .i64 x, .int .i64 y] })).map (fun s => { s with env := s.env.take (sKF ts b r i).env.length }) = some (sKF ts ((b.set i x).set (i + 2 ^ r) y) r i) := by
  obtain ⟨b0, b1, b2, b3, b4, b5, b6, b7, b8, b9, b10, b11, b12, b13, b14, b15, rfl⟩ := len16 hb
  match r, i, hr, hi, h with
  | 0, 0, _, _, _ => exact e9F_0_0 call ts b0 b1 b2 b3 b4 b5 b6 b7 b8 b9 b10 b11 b12 b13 b14 b15 x y
  | 0, 1, _, _, h => exact absurd h (by decide)
  | 0, 2, _, _, _ => exact e9F_0_2 call ts b0 b1 b2 b3 b4 b5 b6 b7 b8 b9 b10 b11 b12 b13 b14 b15 x y
  | 0, 3, _, _, h => exact absurd h (by decide)
  | 0, 4, _, _, _ => exact e9F_0_4 call ts b0 b1 b2 b3 b4 b5 b6 b7 b8 b9 b10 b11 b12 b13 b14 b15 x y
  | 0, 5, _, _, h => exact absurd h (by decide)
  | 0, 6, _, _, _ => exact e9F_0_6 call ts b0 b1 b2 b3 b4 b5 b6 b7 b8 b9 b10 b11 b12 b13 b14 b15 x y
  | 0, 7, _, _, h => exact absurd h (by decide)
  | 0, 8, _, _, _ => exact e9F_0_8 call ts b0 b1 b2 b3 b4 b5 b6 b7 b8 b9 b10 b11 b12 b13 b14 b15 x y
  | 0, 9, _, _, h => exact absurd h (by decide)
  | 0, 10, _, _, _ => exact e9F_0_10 call ts b0 b1 b2 b3 b4 b5 b6 b7 b8 b9 b10 b11 b12 b13 b14 b15 x y
  | 0, 11, _, _, h => exact absurd h (by decide)
  | 0, 12, _, _, _ => exact e9F_0_12 call ts b0 b1 b2 b3 b4 b5 b6 b7 b8 b9 b10 b11 b12 b13 b14 b15 x y
  | 0, 13, _, _, h => exact absurd h (by decide)
  | 0, 14, _, _, _ => exact e9F_0_14 call ts b0 b1 b2 b3 b4 b5 b6 b7 b8 b9 b10 b11 b12 b13 b14 b15 x y
  | 0, 15, _, _, h => exact absurd h (by decide)
  | 1, 0, _, _, _ => exact e9F_1_0 call ts b0 b1 b2 b3 b4 b5 b6 b7 b8 b9 b10 b11 b12 b13 b14 b15 x y
  | 1, 1, _, _, _ => exact e9F_1_1 call ts b0 b1 b2 b3 b4 b5 b6 b7 b8 b9 b10 b11 b12 b13 b14 b15 x y
  | 1, 2, _, _, h => exact absurd h (by decide)
  | 1, 3, _, _, h => exact absurd h (by decide)
  | 1, 4, _, _, _ => exact e9F_1_4 call ts b0 b1 b2 b3 b4 b5 b6 b7 b8 b9 b10 b11 b12 b13 b14 b15 x y
  | 1, 5, _, _, _ => exact e9F_1_5 call ts b0 b1 b2 b3 b4 b5 b6 b7 b8 b9 b10 b11 b12 b13 b14 b15 x y
  | 1, 6, _, _, h => exact absurd h (by decide)
  | 1, 7, _, _, h => exact absurd h (by decide)
  | 1, 8, _, _, _ => exact e9F_1_8 call ts b0 b1 b2 b3 b4 b5 b6 b7 b8 b9 b10 b11 b12 b13 b14 b15 x y
  | 1, 9, _, _, _ => exact e9F_1_9 call ts b0 b1 b2 b3 b4 b5 b6 b7 b8 b9 b10 b11 b12 b13 b14 b15 x y
  | 1, 10, _, _, h => exact absurd h (by decide)
  | 1, 11, _, _, h => exact absurd h (by decide)
  | 1, 12, _, _, _ => exact e9F_1_12 call ts b0 b1 b2 b3 b4 b5 b6 b7 b8 b9 b10 b11 b12 b13 b14 b15 x y
  | 1, 13, _, _, _ => exact e9F_1_13 call ts b0 b1 b2 b3 b4 b5 b6 b7 b8 b9 b10 b11 b12 b13 b14 b15 x y
  | 1, 14, _, _, h => exact absurd h (by decide)
  | 1, 15, _, _, h => exact absurd h (by decide)
  | 2, 0, _, _, _ => exact e9F_2_0 call ts b0 b1 b2 b3 b4 b5 b6 b7 b8 b9 b10 b11 b12 b13 b14 b15 x y
  | 2, 1, _, _, _ => exact e9F_2_1 call ts b0 b1 b2 b3 b4 b5 b6 b7 b8 b9 b10 b11 b12 b13 b14 b15 x y
  | 2, 2, _, _, _ => exact e9F_2_2 call ts b0 b1 b2 b3 b4 b5 b6 b7 b8 b9 b10 b11 b12 b13 b14 b15 x y
  | 2, 3, _, _, _ => exact e9F_2_3 call ts b0 b1 b2 b3 b4 b5 b6 b7 b8 b9 b10 b11 b12 b13 b14 b15 x y
  | 2, 4, _, _, h => exact absurd h (by decide)
  | 2, 5, _, _, h => exact absurd h (by decide)
  | 2, 6, _, _, h => exact absurd h (by decide)
  | 2, 7, _, _, h => exact absurd h (by decide)
  | 2, 8, _, _, _ => exact e9F_2_8 call ts b0 b1 b2 b3 b4 b5 b6 b7 b8 b9 b10 b11 b12 b13 b14 b15 x y
  | 2, 9, _, _, _ => exact e9F_2_9 call ts b0 b1 b2 b3 b4 b5 b6 b7 b8 b9 b10 b11 b12 b13 b14 b15 x y
  | 2, 10, _, _, _ => exact e9F_2_10 call ts b0 b1 b2 b3 b4 b5 b6 b7 b8 b9 b10 b11 b12 b13 b14 b15 x y
  | 2, 11, _, _, _ => exact e9F_2_11 call ts b0 b1 b2 b3 b4 b5 b6 b7 b8 b9 b10 b11 b12 b13 b14 b15 x y
  | 2, 12, _, _, h => exact absurd h (by decide)
  | 2, 13, _, _, h => exact absurd h (by decide)
  | 2, 14, _, _, h => exact absurd h (by decide)
  | 2, 15, _, _, h => exact absurd h (by decide)
  | 3, 0, _, _, _ => exact e9F_3_0 call ts b0 b1 b2 b3 b4 b5 b6 b7 b8 b9 b10 b11 b12 b13 b14 b15 x y
  | 3, 1, _, _, _ => exact e9F_3_1 call ts b0 b1 b2 b3 b4 b5 b6 b7 b8 b9 b10 b11 b12 b13 b14 b15 x y
  | 3, 2, _, _, _ => exact e9F_3_2 call ts b0 b1 b2 b3 b4 b5 b6 b7 b8 b9 b10 b11 b12 b13 b14 b15 x y
  | 3, 3, _, _, _ => exact e9F_3_3 call ts b0 b1 b2 b3 b4 b5 b6 b7 b8 b9 b10 b11 b12 b13 b14 b15 x y
  | 3, 4, _, _, _ => exact e9F_3_4 call ts b0 b1 b2 b3 b4 b5 b6 b7 b8 b9 b10 b11 b12 b13 b14 b15 x y
  | 3, 5, _, _, _ => exact e9F_3_5 call ts b0 b1 b2 b3 b4 b5 b6 b7 b8 b9 b10 b11 b12 b13 b14 b15 x y
  | 3, 6, _, _, _ => exact e9F_3_6 call ts b0 b1 b2 b3 b4 b5 b6 b7 b8 b9 b10 b11 b12 b13 b14 b15 x y
  | 3, 7, _, _, _ => exact e9F_3_7 call ts b0 b1 b2 b3 b4 b5 b6 b7 b8 b9 b10 b11 b12 b13 b14 b15 x y
  | 3, 8, _, _, h => exact absurd h (by decide)
  | 3, 9, _, _, h => exact absurd h (by decide)
  | 3, 10, _, _, h => exact absurd h (by decide)
  | 3, 11, _, _, h => exact absurd h (by decide)
  | 3, 12, _, _, h => exact absurd h (by decide)
  | 3, 13, _, _, h => exact absurd h (by decide)
  | 3, 14, _, _, h => exact absurd h (by decide)
  | 3, 15, _, _, h => exact absurd h (by decide)
  | r, i + 16, _, h, _ => exact absurd h (by omega)
  | r + 4, i, h, _, _ => exact absurd h (by omega)
theorem eBF (ts b : List Int) (j : Nat) (hj : j < 4) : runReg cB q17_2 (sHdF ts b j .unk) = some (sHdF ts b j (.bool true)) := by
  match j, hj with
  | 0, _ => exact eBF_0 ts b
  | 1, _ => exact eBF_1 ts b
  | 2, _ => exact eBF_2 ts b
  | 3, _ => exact eBF_3 ts b
  | j + 4, h => exact absurd h (by omega)
theorem eCF (ts b : List Int) (hts : ts.length = 16) (j : Nat) (hj : j < 4) : ((runReg cB q17_3 (sHdF ts b j (.bool true))).bind fun st => runReg cB q17_4 st) = some (sRF ts b (rdF j)) := by
  obtain ⟨t0, t1, t2, t3, t4, t5, t6, t7, t8, t9, t10, t11, t12, t13, t14, t15, rfl⟩ := len16 hts
  match j, hj with
  | 0, _ => exact eCF_0 t0 t1 t2 t3 t4 t5 t6 t7 t8 t9 t10 t11 t12 t13 t14 t15 b
  | 1, _ => exact eCF_1 t0 t1 t2 t3 t4 t5 t6 t7 t8 t9 t10 t11 t12 t13 t14 t15 b
  | 2, _ => exact eCF_2 t0 t1 t2 t3 t4 t5 t6 t7 t8 t9 t10 t11 t12 t13 t14 t15 b
  | 3, _ => exact eCF_3 t0 t1 t2 t3 t4 t5 t6 t7 t8 t9 t10 t11 t12 t13 t14 t15 b
  | j + 4, h => exact absurd h (by omega)
theorem eHF (ts b : List Int) (j : Nat) (hj : j < 4) : ((runReg cB q17_9 (sRF ts b (rdF j))).bind fun st => tidy 0 { st with env := killE [5, 6, 7, 8, 10, 14, 15, 16] st.env }) = some (sHdF ts b (j + 1) .unk) := by
  match j, hj with
  | 0, _ => exact eHF_0 ts b
  | 1, _ => exact eHF_1 ts b
  | 2, _ => exact eHF_2 ts b
  | 3, _ => exact eHF_3 ts b
  | j + 4, h => exact absurd h (by omega)
def s0I (ts b : List Int) : St := { env := [(0, .ints .i64 ts), (1, .ints .i64 b), (2, .unk), (3, .unk), (4, .unk), (5, .unk), (6, .unk), (7, .unk), (8, .unk), (10, .unk), (15, .unk), (16, .unk), (17, .unk), (37, .unk)], heap := [], m := 0 }
def sHdI (ts b : List Int) (j : Nat) (x : EV) : St := { env := [(0, .unk), (1, .unk), (2, .ptr 0 0), (3, .ptr 1 0), (4, .ptr 2 0), (5, .ptr 3 0), (6, .unk), (7, .unk), (8, .unk), (10, x), (15, .unk), (16, .unk), (17, .unk), (37, .unk)], heap := [row16 ts, row16 b, row16 zs16, ⟨true, .ints .i64 [3 - (j : Int)]⟩], m := 0 }
def sRI (ts b : List Int) (r : Nat) : St := { env := [(0, .unk), (1, .unk), (2, .ptr 0 0), (3, .ptr 1 0), (4, .ptr 2 0), (5, .ptr 3 0), (6, .unk), (7, .unk), (8, .unk), (10, .bool true), (15, .fn 40 [] [.ptr 4 0, .ptr 5 0]), (16, .unk), (17, .unk), (37, .unk)], heap := NF.hp ts b r, m := 0 }
def s1I (ts b : List Int) (r i : Nat) : St := { env := [(0, .unk), (1, .unk), (2, .ptr 0 0), (3, .ptr 1 0), (4, .ptr 2 0), (5, .ptr 3 0), (6, .unk), (7, .unk), (8, .unk), (10, .bool true), (15, .fn 40 [] [.ptr 4 0, .ptr 5 0]), (16, .int .i64 i), (17, trn ts r i), (37, .unk)], heap := NF.hp ts b r, m := 6 }
def sGI (ts b : List Int) (r i : Nat) : St := { env := [(0, .unk), (1, .unk), (2, .ptr 0 0), (3, .ptr 1 0), (4, .ptr 2 0), (5, .ptr 3 0), (6, .int .i64 i), (7, .ptr 6 0), (8, .unk), (10, .bool true), (15, .fn 40 [] [.ptr 4 0, .ptr 5 0]), (16, .int .i64 i), (17, trn ts r i), (37, .unk)], heap := NF.hp ts b r ++ [⟨true, trn ts r i⟩], m := 6 }
def sKI (ts b : List Int) (r i : Nat) : St := { env := [(0, .unk), (1, .unk), (2, .ptr 0 0), (3, .ptr 1 0), (4, .ptr 2 0), (5, .ptr 3 0), (6, .int .i64 i), (7, .ptr 6 0), (8, .int .i64 ((i + 2 ^ r : Nat) : Int)), (10, .bool true), (15, .fn 40 [] [.ptr 4 0, .ptr 5 0]), (16, .int .i64 i), (17, trn ts r i), (37, .unk)], heap := NF.hp ts b r ++ [⟨true, trn ts r i⟩], m := 6 }
def s9I (ts b : List Int) (r i : Nat) : St := { env := (sKI ts b r i).env ++ [(23, .int .i64 i), (24, .int .i64 ((i + 2 ^ r : Nat) : Int)), (25, .int .i64 i), (26, .ptr 1 i), (27, .int .i64 (b.getD i 0)), (28, .int .i64 ((i + 2 ^ r : Nat) : Int)), (29, .ptr 1 (i + 2 ^ r)), (30, .int .i64 (b.getD (i + 2 ^ r) 0)), (31, trn ts r i), (32, .unk), (22, .unk), (33, .unk), (34, .unk), (35, .unk), (36, .unk)], heap := NF.hp ts b r ++ [⟨true, trn ts r i⟩], m := 6 }
theorem eAI (t0 t1 t2 t3 t4 t5 t6 t7 t8 t9 t10 t11 t12 t13 t14 t15 b0 b1 b2 b3 b4 b5 b6 b7 b8 b9 b10 b11 b12 b13 b14 b15 : Int) : ((runReg cB q25_0 (s0I [t0, t1, t2, t3, t4, t5, t6, t7, t8, t9, t10, t11, t12, t13, t14, t15] [b0, b1, b2, b3, b4, b5, b6, b7, b8, b9, b10, b11, b12, b13, b14, b15])).bind fun st => runReg cB q25_1 st).map (fun st => { st with env := killE [0, 1] st.env }) = some (sHdI [t0, t1, t2, t3, t4, t5, t6, t7, t8, t9, t10, t11, t12, t13, t14, t15] [b0, b1, b2, b3, b4, b5, b6, b7, b8, b9, b10, b11, b12, b13, b14, b15] 0 .unk) := by kernel_rfl
theorem eBI_0 (ts b : List Int) : runReg cB q25_2 (sHdI ts b 0 .unk) = some (sHdI ts b 0 (.bool true)) := by kernel_rfl
theorem eBI_1 (ts b : List Int) : runReg cB q25_2 (sHdI ts b 1 .unk) = some (sHdI ts b 1 (.bool true)) := by kernel_rfl
theorem eBI_2 (ts b : List Int) : runReg cB q25_2 (sHdI ts b 2 .unk) = some (sHdI ts b 2 (.bool true)) := by kernel_rfl
theorem eBI_3 (ts b : List Int) : runReg cB q25_2 (sHdI ts b 3 .unk) = some (sHdI ts b 3 (.bool true)) := by kernel_rfl
theorem eBI_4 (ts b : List Int) : runReg cB q25_2 (sHdI ts b 4 .unk) = some (sHdI ts b 4 (.bool false)) := by kernel_rfl
theorem eCI_0 (t0 t1 t2 t3 t4 t5 t6 t7 t8 t9 t10 t11 t12 t13 t14 t15 : Int) (b : List Int) : ((runReg cB q25_4 (sHdI [t0, t1, t2, t3, t4, t5, t6, t7, t8, t9, t10, t11, t12, t13, t14, t15] b 0 (.bool true))).bind fun st => some st) = some (sRI [t0, t1, t2, t3, t4, t5, t6, t7, t8, t9, t10, t11, t12, t13, t14, t15] b 3) := by kernel_rfl
theorem eHI_0 (ts b : List Int) : ((runReg cB q25_9 (sRI ts b 3)).bind fun st => (runReg cB q25_10 st).bind fun st => (runReg cB q25_3 st).bind fun st => tidy 0 { st with env := killE [6, 7, 8, 10, 15, 16, 17, 37] st.env }) = some (sHdI ts b 1 .unk) := by kernel_rfl
theorem eCI_1 (t0 t1 t2 t3 t4 t5 t6 t7 t8 t9 t10 t11 t12 t13 t14 t15 : Int) (b : List Int) : ((runReg cB q25_4 (sHdI [t0, t1, t2, t3, t4, t5, t6, t7, t8, t9, t10, t11, t12, t13, t14, t15] b 1 (.bool true))).bind fun st => some st) = some (sRI [t0, t1, t2, t3, t4, t5, t6, t7, t8, t9, t10, t11, t12, t13, t14, t15] b 2) := by kernel_rfl
theorem eHI_1 (ts b : List Int) : ((runReg cB q25_9 (sRI ts b 2)).bind fun st => (runReg cB q25_10 st).bind fun st => (runReg cB q25_3 st).bind fun st => tidy 0 { st with env := killE [6, 7, 8, 10, 15, 16, 17, 37] st.env }) = some (sHdI ts b 2 .unk) := by kernel_rfl
theorem eCI_2 (t0 t1 t2 t3 t4 t5 t6 t7 t8 t9 t10 t11 t12 t13 t14 t15 : Int) (b : List Int) : ((runReg cB q25_4 (sHdI [t0, t1, t2, t3, t4, t5, t6, t7, t8, t9, t10, t11, t12, t13, t14, t15] b 2 (.bool true))).bind fun st => some st) = some (sRI [t0, t1, t2, t3, t4, t5, t6, t7, t8, t9, t10, t11, t12, t13, t14, t15] b 1) := by kernel_rfl
theorem eHI_2 (ts b : List Int) : ((runReg cB q25_9 (sRI ts b 1)).bind fun st => (runReg cB q25_10 st).bind fun st => (runReg cB q25_3 st).bind fun st => tidy 0 { st with env := killE [6, 7, 8, 10, 15, 16, 17, 37] st.env }) = some (sHdI ts b 3 .unk) := by kernel_rfl
theorem eCI_3 (t0 t1 t2 t3 t4 t5 t6 t7 t8 t9 t10 t11 t12 t13 t14 t15 : Int) (b : List Int) : ((runReg cB q25_4 (sHdI [t0, t1, t2, t3, t4, t5, t6, t7, t8, t9, t10, t11, t12, t13, t14, t15] b 3 (.bool true))).bind fun st => some st) = some (sRI [t0, t1, t2, t3, t4, t5, t6, t7, t8, t9, t10, t11, t12, t13, t14, t15] b 0) := by kernel_rfl
theorem eHI_3 (ts b : List Int) : ((runReg cB q25_9 (sRI ts b 0)).bind fun st => (runReg cB q25_10 st).bind fun st => (runReg cB q25_3 st).bind fun st => tidy 0 { st with env := killE [6, 7, 8, 10, 15, 16, 17, 37] st.env }) = some (sHdI ts b 4 .unk) := by kernel_rfl
theorem eGI (ts b : List Int) (r i : Nat) : ((runReg cB q25_5 (s1I ts b r i)).bind fun st => runReg cB q25_6 st) = some (sGI ts b r i) := by kernel_rfl
theorem eZI (b0 b1 b2 b3 b4 b5 b6 b7 b8 b9 b10 b11 b12 b13 b14 b15 : Int) (ts : List Int) : ((runReg cB q25_11 (sHdI ts [b0, b1, b2, b3, b4, b5, b6, b7, b8, b9, b10, b11, b12, b13, b14, b15] 4 (.bool false))).bind fun st => if st.heap.all (·.own) then resAll st [.cell 4 (some 16)] else none) = some [.ints .i64 [b0, b1, b2, b3, b4, b5, b6, b7, b8, b9, b10, b11, b12, b13, b14, b15]] := by kernel_rfl
theorem e7I_0_0 (ts b : List Int) : runReg cB q25_7 (sGI ts b 0 0) = some (sKI ts b 0 0) := by kernel_rfl
theorem e8I_0_0 (call : CallF) (ts : List Int) (b0 b1 b2 b3 b4 b5 b6 b7 b8 b9 b10 b11 b12 b13 b14 b15 : Int) : runOps call (sKI ts [b0, b1, b2, b3, b4, b5, b6, b7, b8, b9, b10, b11, b12, b13, b14, b15] 0 0).heap.length (q25_8.ops.take 9) { sKI ts [b0, b1, b2, b3, b4, b5, b6, b7, b8, b9, b10, b11, b12, b13, b14, b15] 0 0 with env := (sKI ts [b0, b1, b2, b3, b4, b5, b6, b7, b8, b9, b10, b11, b12, b13, b14, b15] 0 0).env ++ q25_8.own.map fun t => (t, .unk), heap := (sKI ts [b0, b1, b2, b3, b4, b5, b6, b7, b8, b9, b10, b11, b12, b13, b14, b15] 0 0).heap ++ List.replicate q25_8.slots ⟨false, .unk⟩ } = some (s9I ts [b0, b1, b2, b3, b4, b5, b6, b7, b8, b9, b10, b11, b12, b13, b14, b15] 0 0) := by kernel_rfl
theorem e9I_0_0 (call : CallF) (ts : List Int) (b0 b1 b2 b3 b4 b5 b6 b7 b8 b9 b10 b11 b12 b13 b14 b15 x y : Int) : (runOps call (sKI ts [b0, b1, b2, b3, b4, b5, b6, b7, b8, b9, b10, b11, b12, b13, b14, b15] 0 0).heap.length (q25_8.ops.drop 10) (applyEff (s9I ts [b0, b1, b2, b3, b4, b5, b6, b7, b8, b9, b10, b11, b12, b13, b14, b15] 0 0) (some 32) { v := .tup [.int .i64 x, .int .i64 y] })).map (fun s => { s with env := s.env.take (sKI ts [b0, b1, b2, b3, b4, b5, b6, b7, b8, b9, b10, b11, b12, b13, b14, b15] 0 0).env.length }) = some (sKI ts (([b0, b1, b2, b3, b4, b5, b6, b7, b8, b9, b10, b11, b12, b13, b14, b15].set 0 x).set (0 + 2 ^ 0) y) 0 0) := by kernel_rfl
theorem e7I_0_2 (ts b : List Int) : runReg cB q25_7 (sGI ts b 0 2) = some (sKI ts b 0 2) := by kernel_rfl
theorem e8I_0_2 (call : CallF) (ts : List Int) (b0 b1 b2 b3 b4 b5 b6 b7 b8 b9 b10 b11 b12 b13 b14 b15 : Int) : runOps call (sKI ts [b0, b1, b2, b3, b4, b5, b6, b7, b8, b9, b10, b11, b12, b13, b14, b15] 0 2).heap.length (q25_8.ops.take 9) { sKI ts [b0, b1, b2, b3, b4, b5, b6, b7, b8, b9, b10, b11, b12, b13, b14, b15] 0 2 with env := (sKI ts [b0, b1, b2, b3, b4, b5, b6, b7, b8, b9, b10, b11, b12, b13, b14, b15] 0 2).env ++ q25_8.own.map fun t => (t, .unk), heap := (sKI ts [b0, b1, b2, b3, b4, b5, b6, b7, b8, b9, b10, b11, b12, b13, b14, b15] 0 2).heap ++ List.replicate q25_8.slots ⟨false, .unk⟩ } = some (s9I ts [b0, b1, b2, b3, b4, b5, b6, b7, b8, b9, b10, b11, b12, b13, b14, b15] 0 2) := by kernel_rfl
theorem e9I_0_2 (call : CallF) (ts : List Int) (b0 b1 b2 b3 b4 b5 b6 b7 b8 b9 b10 b11 b12 b13 b14 b15 x y : Int) : (runOps call (sKI ts [b0, b1, b2, b3, b4, b5, b6, b7, b8, b9, b10, b11, b12, b13, b14, b15] 0 2).heap.length (q25_8.ops.drop 10) (applyEff (s9I ts [b0, b1, b2, b3, b4, b5, b6, b7, b8, b9, b10, b11, b12, b13, b14, b15] 0 2) (some 32) { v := .tup [.int .i64 x, .int .i64 y] })).map (fun s => { s with env := s.env.take (sKI ts [b0, b1, b2, b3, b4, b5, b6, b7, b8, b9, b10, b11, b12, b13, b14, b15] 0 2).env.length }) = some (sKI ts (([b0, b1, b2, b3, b4, b5, b6, b7, b8, b9, b10, b11, b12, b13, b14, b15].set 2 x).set (2 + 2 ^ 0) y) 0 2) := by kernel_rfl
theorem e7I_0_4 (ts b : List Int) : runReg cB q25_7 (sGI ts b 0 4) = some (sKI ts b 0 4) := by kernel_rfl
theorem e8I_0_4 (call : CallF) (ts : List Int) (b0 b1 b2 b3 b4 b5 b6 b7 b8 b9 b10 b11 b12 b13 b14 b15 : Int) : runOps call (sKI ts [b0, b1, b2, b3, b4, b5, b6, b7, b8, b9, b10, b11, b12, b13, b14, b15] 0 4).heap.length (q25_8.ops.take 9) { sKI ts [b0, b1, b2, b3, b4, b5, b6, b7, b8, b9, b10, b11, b12, b13, b14, b15] 0 4 with env := (sKI ts [b0, b1, b2, b3, b4, b5, b6, b7, b8, b9, b10, b11, b12, b13, b14, b15] 0 4).env ++ q25_8.own.map fun t => (t, .unk), heap := (sKI ts [b0, b1, b2, b3, b4, b5, b6, b7, b8, b9, b10, b11, b12, b13, b14, b15] 0 4).heap ++ List.replicate q25_8.slots ⟨false, .unk⟩ } = some (s9I ts [b0, b1, b2, b3, b4, b5, b6, b7, b8, b9, b10, b11, b12, b13, b14, b15] 0 4) := by kernel_rfl
theorem e9I_0_4 (call : CallF) (ts : List Int) (b0 b1 b2 b3 b4 b5 b6 b7 b8 b9 b10 b11 b12 b13 b14 b15 x y : Int) : (runOps call (sKI ts [b0, b1, b2, b3, b4, b5, b6, b7, b8, b9, b10, b11, b12, b13, b14, b15] 0 4).heap.length (q25_8.ops.drop 10) (applyEff (s9I ts [b0, b1, b2, b3, b4, b5, b6, b7, b8, b9, b10, b11, b12, b13, b14, b15] 0 4) (some 32) { v := .tup [.int .i64 x, .int .i64 y] })).map (fun s => { s with env := s.env.take (sKI ts [b0, b1, b2, b3, b4, b5, b6, b7, b8, b9, b10, b11, b12, b13, b14, b15] 0 4).env.length }) = some (sKI ts (([b0, b1, b2, b3, b4, b5, b6, b7, b8, b9, b10, b11, b12, b13, b14, b15].set 4 x).set (4 + 2 ^ 0) y) 0 4) := by kernel_rfl
theorem e7I_0_6 (ts b : List Int) : runReg cB q25_7 (sGI ts b 0 6) = some (sKI ts b 0 6) := by kernel_rfl
theorem e8I_0_6 (call : CallF) (ts : List Int) (b0 b1 b2 b3 b4 b5 b6 b7 b8 b9 b10 b11 b12 b13 b14 b15 : Int) : runOps call (sKI ts [b0, b1, b2, b3, b4, b5, b6, b7, b8, b9, b10, b11, b12, b13, b14, b15] 0 6).heap.length (q25_8.ops.take 9) { sKI ts [b0, b1, b2, b3, b4, b5, b6, b7, b8, b9, b10, b11, b12, b13, b14, b15] 0 6 with env := (sKI ts [b0, b1, b2, b3, b4, b5, b6, b7, b8, b9, b10, b11, b12, b13, b14, b15] 0 6).env ++ q25_8.own.map fun t => (t, .unk), heap := (sKI ts [b0, b1, b2, b3, b4, b5, b6, b7, b8, b9, b10, b11, b12, b13, b14, b15] 0 6).heap ++ List.replicate q25_8.slots ⟨false, .unk⟩ } = some (s9I ts [b0, b1, b2, b3, b4, b5, b6, b7, b8, b9, b10, b11, b12, b13, b14, b15] 0 6) := by kernel_rfl
theorem e9I_0_6 (call : CallF) (ts : List Int) (b0 b1 b2 b3 b4 b5 b6 b7 b8 b9 b10 b11 b12 b13 b14 b15 x y : Int) : (runOps call (sKI ts [b0, b1, b2, b3, b4, b5, b6, b7, b8, b9, b10, b11, b12, b13, b14, b15] 0 6).heap.length (q25_8.ops.drop 10) (applyEff (s9I ts [b0, b1, b2, b3, b4, b5, b6, b7, b8, b9, b10, b11, b12, b13, b14, b15] 0 6) (some 32) { v := .tup [.int .i64 x, .int .i64 y] })).map (fun s => { s with env := s.env.take (sKI ts [b0, b1, b2, b3, b4, b5, b6, b7, b8, b9, b10, b11, b12, b13, b14, b15] 0 6).env.length }) = some (sKI ts (([b0, b1, b2, b3, b4, b5, b6, b7, b8, b9, b10, b11, b12, b13, b14, b15].set 6 x).set (6 + 2 ^ 0) y) 0 6) := by kernel_rfl
theorem e7I_0_8 (ts b : List Int) : runReg cB q25_7 (sGI ts b 0 8) = some (sKI ts b 0 8) := by kernel_rfl
theorem e8I_0_8 (call : CallF) (ts : List Int) (b0 b1 b2 b3 b4 b5 b6 b7 b8 b9 b10 b11 b12 b13 b14 b15 : Int) : runOps call (sKI ts [b0, b1, b2, b3, b4, b5, b6, b7, b8, b9, b10, b11, b12, b13, b14, b15] 0 8).heap.length (q25_8.ops.take 9) { sKI ts [b0, b1, b2, b3, b4, b5, b6, b7, b8, b9, b10, b11, b12, b13, b14, b15] 0 8 with env := (sKI ts [b0, b1, b2, b3, b4, b5, b6, b7, b8, b9, b10, b11, b12, b13, b14, b15] 0 8).env ++ q25_8.own.map fun t => (t, .unk), heap := (sKI ts [b0, b1, b2, b3, b4, b5, b6, b7, b8, b9, b10, b11, b12, b13, b14, b15] 0 8).heap ++ List.replicate q25_8.slots ⟨false, .unk⟩ } = some (s9I ts [b0, b1, b2, b3, b4, b5, b6, b7, b8, b9, b10, b11, b12, b13, b14, b15] 0 8) := by kernel_rfl
theorem e9I_0_8 (call : CallF) (ts : List Int) (b0 b1 b2 b3 b4 b5 b6 b7 b8 b9 b10 b11 b12 b13 b14 b15 x y : Int) : (runOps call (sKI ts [b0, b1, b2, b3, b4, b5, b6, b7, b8, b9, b10, b11, b12, b13, b14, b15] 0 8).heap.length (q25_8.ops.drop 10) (applyEff (s9I ts [b0, b1, b2, b3, b4, b5, b6, b7, b8, b9, b10, b11, b12, b13, b14, b15] 0 8) (some 32) { v := .tup [.int .i64 x, .int .i64 y] })).map (fun s => { s with env := s.env.take (sKI ts [b0, b1, b2, b3, b4, b5, b6, b7, b8, b9, b10, b11, b12, b13, b14, b15] 0 8).env.length }) = some (sKI ts (([b0, b1, b2, b3, b4, b5, b6, b7, b8, b9, b10, b11, b12, b13, b14, b15].set 8 x).set (8 + 2 ^ 0) y) 0 8) := by kernel_rfl
theorem e7I_0_10 (ts b : List Int) : runReg cB q25_7 (sGI ts b 0 10) = some (sKI ts b 0 10) := by kernel_rfl
theorem e8I_0_10 (call : CallF) (ts : List Int) (b0 b1 b2 b3 b4 b5 b6 b7 b8 b9 b10 b11 b12 b13 b14 b15 : Int) : runOps call (sKI ts [b0, b1, b2, b3, b4, b5, b6, b7, b8, b9, b10, b11, b12, b13, b14, b15] 0 10).heap.length (q25_8.ops.take 9) { sKI ts [b0, b1, b2, b3, b4, b5, b6, b7, b8, b9, b10, b11, b12, b13, b14, b15] 0 10 with env := (sKI ts [b0, b1, b2, b3, b4, b5, b6, b7, b8, b9, b10, b11, b12, b13, b14, b15] 0 10).env ++ q25_8.own.map fun t => (t, .unk), heap := (sKI ts [b0, b1, b2, b3, b4, b5, b6, b7, b8, b9, b10, b11, b12, b13, b14, b15] 0 10).heap ++ List.replicate q25_8.slots ⟨false, .unk⟩ } = some (s9I ts [b0, b1, b2, b3, b4, b5, b6, b7, b8, b9, b10, b11, b12, b13, b14, b15] 0 10) := by kernel_rfl
theorem e9I_0_10 (call : CallF) (ts : List Int) (b0 b1 b2 b3 b4 b5 b6 b7 b8 b9 b10 b11 b12 b13 b14 b15 x y : Int) : (runOps call (sKI ts [b0, b1, b2, b3, b4, b5, b6, b7, b8, b9, b10, b11, b12, b13, b14, b15] 0 10).heap.length (q25_8.ops.drop 10) (applyEff (s9I ts [b0, b1, b2, b3, b4, b5, b6, b7, b8, b9, b10, b11, b12, b13, b14, b15] 0 10) (some 32) { v := .tup [.int .i64 x, .int .i64 y] })).map (fun s => { s with env := s.env.take (sKI ts [b0, b1, b2, b3, b4, b5, b6, b7, b8, b9, b10, b11, b12, b13, b14, b15] 0 10).env.length }) = some (sKI ts (([b0, b1, b2, b3, b4, b5, b6, b7, b8, b9, b10, b11, b12, b13, b14, b15].set 10 x).set (10 + 2 ^ 0) y) 0 10) := by kernel_rfl
theorem e7I_0_12 (ts b : List Int) : runReg cB q25_7 (sGI ts b 0 12) = some (sKI ts b 0 12) := by kernel_rfl
theorem e8I_0_12 (call : CallF) (ts : List Int) (b0 b1 b2 b3 b4 b5 b6 b7 b8 b9 b10 b11 b12 b13 b14 b15 : Int) : runOps call (sKI ts [b0, b1, b2, b3, b4, b5, b6, b7, b8, b9, b10, b11, b12, b13, b14, b15] 0 12).heap.length (q25_8.ops.take 9) { sKI ts [b0, b1, b2, b3, b4, b5, b6, b7, b8, b9, b10, b11, b12, b13, b14, b15] 0 12 with env := (sKI ts [b0, b1, b2, b3, b4, b5, b6, b7, b8, b9, b10, b11, b12, b13, b14, b15] 0 12).env ++ q25_8.own.map fun t => (t, .unk), heap := (sKI ts [b0, b1, b2, b3, b4, b5, b6, b7, b8, b9, b10, b11, b12, b13, b14, b15] 0 12).heap ++ List.replicate q25_8.slots ⟨false, .unk⟩ } = some (s9I ts [b0, b1, b2, b3, b4, b5, b6, b7, b8, b9, b10, b11, b12, b13, b14, b15] 0 12) := by kernel_rfl
theorem e9I_0_12 (call : CallF) (ts : List Int) (b0 b1 b2 b3 b4 b5 b6 b7 b8 b9 b10 b11 b12 b13 b14 b15 x y : Int) : (runOps call (sKI ts [b0, b1, b2, b3, b4, b5, b6, b7, b8, b9, b10, b11, b12, b13, b14, b15] 0 12).heap.length (q25_8.ops.drop 10) (applyEff (s9I ts [b0, b1, b2, b3, b4, b5, b6, b7, b8, b9, b10, b11, b12, b13, b14, b15] 0 12) (some 32) { v := .tup [.int .i64 x, .int .i64 y] })).map (fun s => { s with env := s.env.take (sKI ts [b0, b1, b2, b3, b4, b5, b6, b7, b8, b9, b10, b11, b12, b13, b14, b15] 0 12).env.length }) = some (sKI ts (([b0, b1, b2, b3, b4, b5, b6, b7, b8, b9, b10, b11, b12, b13, b14, b15].set 12 x).set (12 + 2 ^ 0) y) 0 12) := by kernel_rfl
theorem e7I_0_14 (ts b : List Int) : runReg cB q25_7 (sGI ts b 0 14) = some (sKI ts b 0 14) := by kernel_rfl
theorem e8I_0_14 (call : CallF) (ts : List Int) (b0 b1 b2 b3 b4 b5 b6 b7 b8 b9 b10 b11 b12 b13 b14 b15 : Int) : runOps call (sKI ts [b0, b1, b2, b3, b4, b5, b6, b7, b8, b9, b10, b11, b12, b13, b14, b15] 0 14).heap.length (q25_8.ops.take 9) { sKI ts [b0, b1, b2, b3, b4, b5, b6, b7, b8, b9, b10, b11, b12, b13, b14, b15] 0 14 with env := (sKI ts [b0, b1, b2, b3, b4, b5, b6, b7, b8, b9, b10, b11, b12, b13, b14, b15] 0 14).env ++ q25_8.own.map fun t => (t, .unk), heap := (sKI ts [b0, b1, b2, b3, b4, b5, b6, b7, b8, b9, b10, b11, b12, b13, b14, b15] 0 14).heap ++ List.replicate q25_8.slots ⟨false, .unk⟩ } = some (s9I ts [b0, b1, b2, b3, b4, b5, b6, b7, b8, b9, b10, b11, b12, b13, b14, b15] 0 14) := by kernel_rfl
theorem e9I_0_14 (call : CallF) (ts : List Int) (b0 b1 b2 b3 b4 b5 b6 b7 b8 b9 b10 b11 b12 b13 b14 b15 x y : Int) : (runOps call (sKI ts [b0, b1, b2, b3, b4, b5, b6, b7, b8, b9, b10, b11, b12, b13, b14, b15] 0 14).heap.length (q25_8.ops.drop 10) (applyEff (s9I ts [b0, b1, b2, b3, b4, b5, b6, b7, b8, b9, b10, b11, b12, b13, b14, b15] 0 14) (some 32) { v := .tup [.int .i64 x, .int .i64 y] })).map (fun s => { s with env := s.env.take (sKI ts [b0, b1, b2, b3, b4, b5, b6, b7, b8, b9, b10, b11, b12, b13, b14, b15] 0 14).env.length }) = some (sKI ts (([b0, b1, b2, b3, b4, b5, b6, b7, b8, b9, b10, b11, b12, b13, b14, b15].set 14 x).set (14 + 2 ^ 0) y) 0 14) := by kernel_rfl
theorem e7I_1_0 (ts b : List Int) : runReg cB q25_7 (sGI ts b 1 0) = some (sKI ts b 1 0) := by kernel_rfl
theorem e8I_1_0 (call : CallF) (ts : List Int) (b0 b1 b2 b3 b4 b5 b6 b7 b8 b9 b10 b11 b12 b13 b14 b15 : Int) : runOps call (sKI ts [b0, b1, b2, b3, b4, b5, b6, b7, b8, b9, b10, b11, b12, b13, b14, b15] 1 0).heap.length (q25_8.ops.take 9) { sKI ts [b0, b1, b2, b3, b4, b5, b6, b7, b8, b9, b10, b11, b12, b13, b14, b15] 1 0 with env := (sKI ts [b0, b1, b2, b3, b4, b5, b6, b7, b8, b9, b10, b11, b12, b13, b14, b15] 1 0).env ++ q25_8.own.map fun t => (t, .unk), heap := (sKI ts [b0, b1, b2, b3, b4, b5, b6, b7, b8, b9, b10, b11, b12, b13, b14, b15] 1 0).heap ++ List.replicate q25_8.slots ⟨false, .unk⟩ } = some (s9I ts [b0, b1, b2, b3, b4, b5, b6, b7, b8, b9, b10, b11, b12, b13, b14, b15] 1 0) := by kernel_rfl
theorem e9I_1_0 (call : CallF) (ts : List Int) (b0 b1 b2 b3 b4 b5 b6 b7 b8 b9 b10 b11 b12 b13 b14 b15 x y : Int) : (runOps call (sKI ts [b0, b1, b2, b3, b4, b5, b6, b7, b8, b9, b10, b11, b12, b13, b14, b15] 1 0).heap.length (q25_8.ops.drop 10) (applyEff (s9I ts [b0, b1, b2, b3, b4, b5, b6, b7, b8, b9, b10, b11, b12, b13, b14, b15] 1 0) (some 32) { v := .tup [.int .i64 x, .int .i64 y] })).map (fun s => { s with env := s.env.take (sKI ts [b0, b1, b2, b3, b4, b5, b6, b7, b8, b9, b10, b11, b12, b13, b14, b15] 1 0).env.length }) = some (sKI ts (([b0, b1, b2, b3, b4, b5, b6, b7, b8, b9, b10, b11, b12, b13, b14, b15].set 0 x).set (0 + 2 ^ 1) y) 1 0) := by kernel_rfl
theorem e7I_1_1 (ts b : List Int) : runReg cB q25_7 (sGI ts b 1 1) = some (sKI ts b 1 1) := by kernel_rfl
theorem e8I_1_1 (call : CallF) (ts : List Int) (b0 b1 b2 b3 b4 b5 b6 b7 b8 b9 b10 b11 b12 b13 b14 b15 : Int) : runOps call (sKI ts [b0, b1, b2, b3, b4, b5, b6, b7, b8, b9, b10, b11, b12, b13, b14, b15] 1 1).heap.length (q25_8.ops.take 9) { sKI ts [b0, b1, b2, b3, b4, b5, b6, b7, b8, b9, b10, b11, b12, b13, b14, b15] 1 1 with env := (sKI ts [b0, b1, b2, b3, b4, b5, b6, b7, b8, b9, b10, b11, b12, b13, b14, b15] 1 1).env ++ q25_8.own.map fun t => (t, .unk), heap := (sKI ts [b0, b1, b2, b3, b4, b5, b6, b7, b8, b9, b10, b11, b12, b13, b14, b15] 1 1).heap ++ List.replicate q25_8.slots ⟨false, .unk⟩ } = some (s9I ts [b0, b1, b2, b3, b4, b5, b6, b7, b8, b9, b10, b11, b12, b13, b14, b15] 1 1) := by kernel_rfl
theorem e9I_1_1 (call : CallF) (ts : List Int) (b0 b1 b2 b3 b4 b5 b6 b7 b8 b9 b10 b11 b12 b13 b14 b15 x y : Int) : (runOps call (sKI ts [b0, b1, b2, b3, b4, b5, b6, b7, b8, b9, b10, b11, b12, b13, b14, b15] 1 1).heap.length (q25_8.ops.drop 10) (applyEff (s9I ts [b0, b1, b2, b3, b4, b5, b6, b7, b8, b9, b10, b11, b12, b13, b14, b15] 1 1) (some 32) { v := .tup [.int .i64 x, .int .i64 y] })).map (fun s => { s with env := s.env.take (sKI ts [b0, b1, b2, b3, b4, b5, b6, b7, b8, b9, b10, b11, b12, b13, b14, b15] 1 1).env.length }) = some (sKI ts (([b0, b1, b2, b3, b4, b5, b6, b7, b8, b9, b10, b11, b12, b13, b14, b15].set 1 x).set (1 + 2 ^ 1) y) 1 1) := by kernel_rfl
theorem e7I_1_4 (ts b : List Int) : runReg cB q25_7 (sGI ts b 1 4) = some (sKI ts b 1 4) := by kernel_rfl
theorem e8I_1_4 (call : CallF) (ts : List Int) (b0 b1 b2 b3 b4 b5 b6 b7 b8 b9 b10 b11 b12 b13 b14 b15 : Int) : runOps call (sKI ts [b0, b1, b2, b3, b4, b5, b6, b7, b8, b9, b10, b11, b12, b13, b14, b15] 1 4).heap.length (q25_8.ops.take 9) { sKI ts [b0, b1, b2, b3, b4, b5, b6, b7, b8, b9, b10, b11, b12, b13, b14, b15] 1 4 with env := (sKI ts [b0, b1, b2, b3, b4, b5, b6, b7, b8, b9, b10, b11, b12, b13, b14, b15] 1 4).env ++ q25_8.own.map fun t => (t, .unk), heap := (sKI ts [b0, b1, b2, b3, b4, b5, b6, b7, b8, b9, b10, b11, b12, b13, b14, b15] 1 4).heap ++ List.replicate q25_8.slots ⟨false, .unk⟩ } = some (s9I ts [b0, b1, b2, b3, b4, b5, b6, b7, b8, b9, b10, b11, b12, b13, b14, b15] 1 4) := by kernel_rfl
theorem e9I_1_4 (call : CallF) (ts : List Int) (b0 b1 b2 b3 b4 b5 b6 b7 b8 b9 b10 b11 b12 b13 b14 b15 x y : Int) : (runOps call (sKI ts [b0, b1, b2, b3, b4, b5, b6, b7, b8, b9, b10, b11, b12, b13, b14, b15] 1 4).heap.length (q25_8.ops.drop 10) (applyEff (s9I ts [b0, b1, b2, b3, b4, b5, b6, b7, b8, b9, b10, b11, b12, b13, b14, b15] 1 4) (some 32) { v := .tup [.int .i64 x, .int .i64 y] })).map (fun s => { s with env := s.env.take (sKI ts [b0, b1, b2, b3, b4, b5, b6, b7, b8, b9, b10, b11, b12, b13, b14, b15] 1 4).env.length }) = some (sKI ts (([b0, b1, b2, b3, b4, b5, b6, b7, b8, b9, b10, b11, b12, b13, b14, b15].set 4 x).set (4 + 2 ^ 1) y) 1 4) := by kernel_rfl
theorem e7I_1_5 (ts b : List Int) : runReg cB q25_7 (sGI ts b 1 5) = some (sKI ts b 1 5) := by kernel_rfl
theorem e8I_1_5 (call : CallF) (ts : List Int) (b0 b1 b2 b3 b4 b5 b6 b7 b8 b9 b10 b11 b12 b13 b14 b15 : Int) : runOps call (sKI ts [b0, b1, b2, b3, b4, b5, b6, b7, b8, b9, b10, b11, b12, b13, b14, b15] 1 5).heap.length (q25_8.ops.take 9) { sKI ts [b0, b1, b2, b3, b4, b5, b6, b7, b8, b9, b10, b11, b12, b13, b14, b15] 1 5 with env := (sKI ts [b0, b1, b2, b3, b4, b5, b6, b7, b8, b9, b10, b11, b12, b13, b14, b15] 1 5).env ++ q25_8.own.map fun t => (t, .unk), heap := (sKI ts [b0, b1, b2, b3, b4, b5, b6, b7, b8, b9, b10, b11, b12, b13, b14, b15] 1 5).heap ++ List.replicate q25_8.slots ⟨false, .unk⟩ } = some (s9I ts [b0, b1, b2, b3, b4, b5, b6, b7, b8, b9, b10, b11, b12, b13, b14, b15] 1 5) := by kernel_rfl
theorem e9I_1_5 (call : CallF) (ts : List Int) (b0 b1 b2 b3 b4 b5 b6 b7 b8 b9 b10 b11 b12 b13 b14 b15 x y : Int) : (runOps call (sKI ts [b0, b1, b2, b3, b4, b5, b6, b7, b8, b9, b10, b11, b12, b13, b14, b15] 1 5).heap.length (q25_8.ops.drop 10) (applyEff (s9I ts [b0, b1, b2, b3, b4, b5, b6, b7, b8, b9, b10, b11, b12, b13, b14, b15] 1 5) (some 32) { v := .tup [.int .i64 x, .int .i64 y] })).map (fun s => { s with env := s.env.take (sKI ts [b0, b1, b2, b3, b4, b5, b6, b7, b8, b9, b10, b11, b12, b13, b14, b15] 1 5).env.length }) = some (sKI ts (([b0, b1, b2, b3, b4, b5, b6, b7, b8, b9, b10, b11, b12, b13, b14, b15].set 5 x).set (5 + 2 ^ 1) y) 1 5) := by kernel_rfl
theorem e7I_1_8 (ts b : List Int) : runReg cB q25_7 (sGI ts b 1 8) = some (sKI ts b 1 8) := by kernel_rfl
theorem e8I_1_8 (call : CallF) (ts : List Int) (b0 b1 b2 b3 b4 b5 b6 b7 b8 b9 b10 b11 b12 b13 b14 b15 : Int) : runOps call (sKI ts [b0, b1, b2, b3, b4, b5, b6, b7, b8, b9, b10, b11, b12, b13, b14, b15] 1 8).heap.length (q25_8.ops.take 9) { sKI ts [b0, b1, b2, b3, b4, b5, b6, b7, b8, b9, b10, b11, b12, b13, b14, b15] 1 8 with env := (sKI ts [b0, b1, b2, b3, b4, b5, b6, b7, b8, b9, b10, b11, b12, b13, b14, b15] 1 8).env ++ q25_8.own.map fun t => (t, .unk), heap := (sKI ts [b0, b1, b2, b3, b4, b5, b6, b7, b8, b9, b10, b11, b12, b13, b14, b15] 1 8).heap ++ List.replicate q25_8.slots ⟨false, .unk⟩ } = some (s9I ts [b0, b1, b2, b3, b4, b5, b6, b7, b8, b9, b10, b11, b12, b13, b14, b15] 1 8) := by kernel_rfl
theorem e9I_1_8 (call : CallF) (ts : List Int) (b0 b1 b2 b3 b4 b5 b6 b7 b8 b9 b10 b11 b12 b13 b14 b15 x y : Int) : (runOps call (sKI ts [b0, b1, b2, b3, b4, b5, b6, b7, b8, b9, b10, b11, b12, b13, b14, b15] 1 8).heap.length (q25_8.ops.drop 10) (applyEff (s9I ts [b0, b1, b2, b3, b4, b5, b6, b7, b8, b9, b10, b11, b12, b13, b14, b15] 1 8) (some 32) { v := .tup [.int .i64 x, .int .i64 y] })).map (fun s => { s with env := s.env.take (sKI ts [b0, b1, b2, b3, b4, b5, b6, b7, b8, b9, b10, b11, b12, b13, b14, b15] 1 8).env.length }) = some (sKI ts (([b0, b1, b2, b3, b4, b5, b6, b7, b8, b9, b10, b11, b12, b13, b14, b15].set 8 x).set (8 + 2 ^ 1) y) 1 8) := by kernel_rfl
theorem e7I_1_9 (ts b : List Int) : runReg cB q25_7 (sGI ts b 1 9) = some (sKI ts b 1 9) := by kernel_rfl
theorem e8I_1_9 (call : CallF) (ts : List Int) (b0 b1 b2 b3 b4 b5 b6 b7 b8 b9 b10 b11 b12 b13 b14 b15 : Int) : runOps call (sKI ts [b0, b1, b2, b3, b4, b5, b6, b7, b8, b9, b10, b11, b12, b13, b14, b15] 1 9).heap.length (q25_8.ops.take 9) { sKI ts [b0, b1, b2, b3, b4, b5, b6, b7, b8, b9, b10, b11, b12, b13, b14, b15] 1 9 with env := (sKI ts [b0, b1, b2, b3, b4, b5, b6, b7, b8, b9, b10, b11, b12, b13, b14, b15] 1 9).env ++ q25_8.own.map fun t => (t, .unk), heap := (sKI ts [b0, b1, b2, b3, b4, b5, b6, b7, b8, b9, b10, b11, b12, b13, b14, b15] 1 9).heap ++ List.replicate q25_8.slots ⟨false, .unk⟩ } = some (s9I ts [b0, b1, b2, b3, b4, b5, b6, b7, b8, b9, b10, b11, b12, b13, b14, b15] 1 9) := by kernel_rfl
theorem e9I_1_9 (call : CallF) (ts : List Int) (b0 b1 b2 b3 b4 b5 b6 b7 b8 b9 b10 b11 b12 b13 b14 b15 x y : Int) : (runOps call (sKI ts [b0, b1, b2, b3, b4, b5, b6, b7, b8, b9, b10, b11, b12, b13, b14, b15] 1 9).heap.length (q25_8.ops.drop 10) (applyEff (s9I ts [b0, b1, b2, b3, b4, b5, b6, b7, b8, b9, b10, b11, b12, b13, b14, b15] 1 9) (some 32) { v := .tup [.int .i64 x, .int .i64 y] })).map (fun s => { s with env := s.env.take (sKI ts [b0, b1, b2, b3, b4, b5, b6, b7, b8, b9, b10, b11, b12, b13, b14, b15] 1 9).env.length }) = some (sKI ts (([b0, b1, b2, b3, b4, b5, b6, b7, b8, b9, b10, b11, b12, b13, b14, b15].set 9 x).set (9 + 2 ^ 1) y) 1 9) := by kernel_rfl
theorem e7I_1_12 (ts b : List Int) : runReg cB q25_7 (sGI ts b 1 12) = some (sKI ts b 1 12) := by kernel_rfl
theorem e8I_1_12 (call : CallF) (ts : List Int) (b0 b1 b2 b3 b4 b5 b6 b7 b8 b9 b10 b11 b12 b13 b14 b15 : Int) : runOps call (sKI ts [b0, b1, b2, b3, b4, b5, b6, b7, b8, b9, b10, b11, b12, b13, b14, b15] 1 12).heap.length (q25_8.ops.take 9) { sKI ts [b0, b1, b2, b3, b4, b5, b6, b7, b8, b9, b10, b11, b12, b13, b14, b15] 1 12 with env := (sKI ts [b0, b1, b2, b3, b4, b5, b6, b7, b8, b9, b10, b11, b12, b13, b14, b15] 1 12).env ++ q25_8.own.map fun t => (t, .unk), heap := (sKI ts [b0, b1, b2, b3, b4, b5, b6, b7, b8, b9, b10, b11, b12, b13, b14, b15] 1 12).heap ++ List.replicate q25_8.slots ⟨false, .unk⟩ } = some (s9I ts [b0, b1, b2, b3, b4, b5, b6, b7, b8, b9, b10, b11, b12, b13, b14, b15] 1 12) := by kernel_rfl
theorem e9I_1_12 (call : CallF) (ts : List Int) (b0 b1 b2 b3 b4 b5 b6 b7 b8 b9 b10 b11 b12 b13 b14 b15 x y : Int) : (runOps call (sKI ts [b0, b1, b2, b3, b4, b5, b6, b7, b8, b9, b10, b11, b12, b13, b14, b15] 1 12).heap.length (q25_8.ops.drop 10) (applyEff (s9I ts [b0, b1, b2, b3, b4, b5, b6, b7, b8, b9, b10, b11, b12, b13, b14, b15] 1 12) (some 32) { v := .tup [.int .i64 x, .int .i64 y] })).map (fun s => { s with env := s.env.take (sKI ts [b0, b1, b2, b3, b4, b5, b6, b7, b8, b9, b10, b11, b12, b13, b14, b15] 1 12).env.length }) = some (sKI ts (([b0, b1, b2, b3, b4, b5, b6, b7, b8, b9, b10, b11, b12, b13, b14, b15].set 12 x).set (12 + 2 ^ 1) y) 1 12) := by kernel_rfl
theorem e7I_1_13 (ts b : List Int) : runReg cB q25_7 (sGI ts b 1 13) = some (sKI ts b 1 13) := by kernel_rfl
theorem e8I_1_13 (call : CallF) (ts : List Int) (b0 b1 b2 b3 b4 b5 b6 b7 b8 b9 b10 b11 b12 b13 b14 b15 : Int) : runOps call (sKI ts [b0, b1, b2, b3, b4, b5, b6, b7, b8, b9, b10, b11, b12, b13, b14, b15] 1 13).heap.length (q25_8.ops.take 9) { sKI ts [b0, b1, b2, b3, b4, b5, b6, b7, b8, b9, b10, b11, b12, b13, b14, b15] 1 13 with env := (sKI ts [b0, b1, b2, b3, b4, b5, b6, b7, b8, b9, b10, b11, b12, b13, b14, b15] 1 13).env ++ q25_8.own.map fun t => (t, .unk), heap := (sKI ts [b0, b1, b2, b3, b4, b5, b6, b7, b8, b9, b10, b11, b12, b13, b14, b15] 1 13).heap ++ List.replicate q25_8.slots ⟨false, .unk⟩ } = some (s9I ts [b0, b1, b2, b3, b4, b5, b6, b7, b8, b9, b10, b11, b12, b13, b14, b15] 1 13) := by kernel_rfl
theorem e9I_1_13 (call : CallF) (ts : List Int) (b0 b1 b2 b3 b4 b5 b6 b7 b8 b9 b10 b11 b12 b13 b14 b15 x y : Int) : (runOps call (sKI ts [b0, b1, b2, b3, b4, b5, b6, b7, b8, b9, b10, b11, b12, b13, b14, b15] 1 13).heap.length (q25_8.ops.drop 10) (applyEff (s9I ts [b0, b1, b2, b3, b4, b5, b6, b7, b8, b9, b10, b11, b12, b13, b14, b15] 1 13) (some 32) { v := .tup [.int .i64 x, .int .i64 y] })).map (fun s => { s with env := s.env.take (sKI ts [b0, b1, b2, b3, b4, b5, b6, b7, b8, b9, b10, b11, b12, b13, b14, b15] 1 13).env.length }) = some (sKI ts (([b0, b1, b2, b3, b4, b5, b6, b7, b8, b9, b10, b11, b12, b13, b14, b15].set 13 x).set (13 + 2 ^ 1) y) 1 13) := by kernel_rfl
theorem e7I_2_0 (ts b : List Int) : runReg cB q25_7 (sGI ts b 2 0) = some (sKI ts b 2 0) := by kernel_rfl
theorem e8I_2_0 (call : CallF) (ts : List Int) (b0 b1 b2 b3 b4 b5 b6 b7 b8 b9 b10 b11 b12 b13 b14 b15 : Int) : runOps call (sKI ts [b0, b1, b2, b3, b4, b5, b6, b7, b8, b9, b10, b11, b12, b13, b14, b15] 2 0).heap.length (q25_8.ops.take 9) { sKI ts [b0, b1, b2, b3, b4, b5, b6, b7, b8, b9, b10, b11, b12, b13, b14, b15] 2 0 with env := (sKI ts [b0, b1, b2, b3, b4, b5, b6, b7, b8, b9, b10, b11, b12, b13, b14, b15] 2 0).env ++ q25_8.own.map fun t => (t, .unk), heap := (sKI ts [b0, b1, b2, b3, b4, b5, b6, b7, b8, b9, b10, b11, b12, b13, b14, b15] 2 0).heap ++ List.replicate q25_8.slots ⟨false, .unk⟩ } = some (s9I ts [b0, b1, b2, b3, b4, b5, b6, b7, b8, b9, b10, b11, b12, b13, b14, b15] 2 0) := by kernel_rfl
theorem e9I_2_0 (call : CallF) (ts : List Int) (b0 b1 b2 b3 b4 b5 b6 b7 b8 b9 b10 b11 b12 b13 b14 b15 x y : Int) : (runOps call (sKI ts [b0, b1, b2, b3, b4, b5, b6, b7, b8, b9, b10, b11, b12, b13, b14, b15] 2 0).heap.length (q25_8.ops.drop 10) (applyEff (s9I ts [b0, b1, b2, b3, b4, b5, b6, b7, b8, b9, b10, b11, b12, b13, b14, b15] 2 0) (some 32) { v := .tup [.int .i64 x, .int .i64 y] })).map (fun s => { s with env := s.env.take (sKI ts [b0, b1, b2, b3, b4, b5, b6, b7, b8, b9, b10, b11, b12, b13, b14, b15] 2 0).env.length }) = some (sKI ts (([b0, b1, b2, b3, b4, b5, b6, b7, b8, b9, b10, b11, b12, b13, b14, b15].set 0 x).set (0 + 2 ^ 2) y) 2 0) := by kernel_rfl
theorem e7I_2_1 (ts b : List Int) : runReg cB q25_7 (sGI ts b 2 1) = some (sKI ts b 2 1) := by kernel_rfl
theorem e8I_2_1 (call : CallF) (ts : List Int) (b0 b1 b2 b3 b4 b5 b6 b7 b8 b9 b10 b11 b12 b13 b14 b15 : Int) : runOps call (sKI ts [b0, b1, b2, b3, b4, b5, b6, b7, b8, b9, b10, b11, b12, b13, b14, b15] 2 1).heap.length (q25_8.ops.take 9) { sKI ts [b0, b1, b2, b3, b4, b5, b6, b7, b8, b9, b10, b11, b12, b13, b14, b15] 2 1 with env := (sKI ts [b0, b1, b2, b3, b4, b5, b6, b7, b8, b9, b10, b11, b12, b13, b14, b15] 2 1).env ++ q25_8.own.map fun t => (t, .unk), heap := (sKI ts [b0, b1, b2, b3, b4, b5, b6, b7, b8, b9, b10, b11, b12, b13, b14, b15] 2 1).heap ++ List.replicate q25_8.slots ⟨false, .unk⟩ } = some (s9I ts [b0, b1, b2, b3, b4, b5, b6, b7, b8, b9, b10, b11, b12, b13, b14, b15] 2 1) := by kernel_rfl
theorem e9I_2_1 (call : CallF) (ts : List Int) (b0 b1 b2 b3 b4 b5 b6 b7 b8 b9 b10 b11 b12 b13 b14 b15 x y : Int) : (runOps call (sKI ts [b0, b1, b2, b3, b4, b5, b6, b7, b8, b9, b10, b11, b12, b13, b14, b15] 2 1).heap.length (q25_8.ops.drop 10) (applyEff (s9I ts [b0, b1, b2, b3, b4, b5, b6, b7, b8, b9, b10, b11, b12, b13, b14, b15] 2 1) (some 32) { v := .tup [.int .i64 x, .int .i64 y] })).map (fun s => { s with env := s.env.take (sKI ts [b0, b1, b2, b3, b4, b5, b6, b7, b8, b9, b10, b11, b12, b13, b14, b15] 2 1).env.length }) = some (sKI ts (([b0, b1, b2, b3, b4, b5, b6, b7, b8, b9, b10, b11, b12, b13, b14, b15].set 1 x).set (1 + 2 ^ 2) y) 2 1) := by kernel_rfl
theorem e7I_2_2 (ts b : List Int) : runReg cB q25_7 (sGI ts b 2 2) = some (sKI ts b 2 2) := by kernel_rfl
theorem e8I_2_2 (call : CallF) (ts : List Int) (b0 b1 b2 b3 b4 b5 b6 b7 b8 b9 b10 b11 b12 b13 b14 b15 : Int) : runOps call (sKI ts [b0, b1, b2, b3, b4, b5, b6, b7, b8, b9, b10, b11, b12, b13, b14, b15] 2 2).heap.length (q25_8.ops.take 9) { sKI ts [b0, b1, b2, b3, b4, b5, b6, b7, b8, b9, b10, b11, b12, b13, b14, b15] 2 2 with env := (sKI ts [b0, b1, b2, b3, b4, b5, b6, b7, b8, b9, b10, b11, b12, b13, b14, b15] 2 2).env ++ q25_8.own.map fun t => (t, .unk), heap := (sKI ts [b0, b1, b2, b3, b4, b5, b6, b7, b8, b9, b10, b11, b12, b13, b14, b15] 2 2).heap ++ List.replicate q25_8.slots ⟨false, .unk⟩ } = some (s9I ts [b0, b1, b2, b3, b4, b5, b6, b7, b8, b9, b10, b11, b12, b13, b14, b15] 2 2) := by kernel_rfl
theorem e9I_2_2 (call : CallF) (ts : List Int) (b0 b1 b2 b3 b4 b5 b6 b7 b8 b9 b10 b11 b12 b13 b14 b15 x y : Int) : (runOps call (sKI ts [b0, b1, b2, b3, b4, b5, b6, b7, b8, b9, b10, b11, b12, b13, b14, b15] 2 2).heap.length (q25_8.ops.drop 10) (applyEff (s9I ts [b0, b1, b2, b3, b4, b5, b6, b7, b8, b9, b10, b11, b12, b13, b14, b15] 2 2) (some 32) { v := .tup [.int .i64 x, .int .i64 y] })).map (fun s => { s with env := s.env.take (sKI ts [b0, b1, b2, b3, b4, b5, b6, b7, b8, b9, b10, b11, b12, b13, b14, b15] 2 2).env.length }) = some (sKI ts (([b0, b1, b2, b3, b4, b5, b6, b7, b8, b9, b10, b11, b12, b13, b14, b15].set 2 x).set (2 + 2 ^ 2) y) 2 2) := by kernel_rfl
theorem e7I_2_3 (ts b : List Int) : runReg cB q25_7 (sGI ts b 2 3) = some (sKI ts b 2 3) := by kernel_rfl
theorem e8I_2_3 (call : CallF) (ts : List Int) (b0 b1 b2 b3 b4 b5 b6 b7 b8 b9 b10 b11 b12 b13 b14 b15 : Int) : runOps call (sKI ts [b0, b1, b2, b3, b4, b5, b6, b7, b8, b9, b10, b11, b12, b13, b14, b15] 2 3).heap.length (q25_8.ops.take 9) { sKI ts [b0, b1, b2, b3, b4, b5, b6, b7, b8, b9, b10, b11, b12, b13, b14, b15] 2 3 with env := (sKI ts [b0, b1, b2, b3, b4, b5, b6, b7, b8, b9, b10, b11, b12, b13, b14, b15] 2 3).env ++ q25_8.own.map fun t => (t, .unk), heap := (sKI ts [b0, b1, b2, b3, b4, b5, b6, b7, b8, b9, b10, b11, b12, b13, b14, b15] 2 3).heap ++ List.replicate q25_8.slots ⟨false, .unk⟩ } = some (s9I ts [b0, b1, b2, b3, b4, b5, b6, b7, b8, b9, b10, b11, b12, b13, b14, b15] 2 3) := by kernel_rfl
theorem e9I_2_3 (call : CallF) (ts : List Int) (b0 b1 b2 b3 b4 b5 b6 b7 b8 b9 b10 b11 b12 b13 b14 b15 x y : Int) : (runOps call (sKI ts [b0, b1, b2, b3, b4, b5, b6, b7, b8, b9, b10, b11, b12, b13, b14, b15] 2 3).heap.length (q25_8.ops.drop 10) (applyEff (s9I ts [b0, b1, b2, b3, b4, b5, b6, b7, b8, b9, b10, b11, b12, b13, b14, b15] 2 3) (some 32) { v := .tup [.int .i64 x, .int .i64 y] })).map (fun s => { s with env := s.env.take (sKI ts [b0, b1, b2, b3, b4, b5, b6, b7, b8, b9, b10, b11, b12, b13, b14, b15] 2 3).env.length }) = some (sKI ts (([b0, b1, b2, b3, b4, b5, b6, b7, b8, b9, b10, b11, b12, b13, b14, b15].set 3 x).set (3 + 2 ^ 2) y) 2 3) := by kernel_rfl
theorem e7I_2_8 (ts b : List Int) : runReg cB q25_7 (sGI ts b 2 8) = some (sKI ts b 2 8) := by kernel_rfl
theorem e8I_2_8 (call : CallF) (ts : List Int) (b0 b1 b2 b3 b4 b5 b6 b7 b8 b9 b10 b11 b12 b13 b14 b15 : Int) : runOps call (sKI ts [b0, b1, b2, b3, b4, b5, b6, b7, b8, b9, b10, b11, b12, b13, b14, b15] 2 8).heap.length (q25_8.ops.take 9) { sKI ts [b0, b1, b2, b3, b4, b5, b6, b7, b8, b9, b10, b11, b12, b13, b14, b15] 2 8 with env := (sKI ts [b0, b1, b2, b3, b4, b5, b6, b7, b8, b9, b10, b11, b12, b13, b14, b15] 2 8).env ++ q25_8.own.map fun t => (t, .unk), heap := (sKI ts [b0, b1, b2, b3, b4, b5, b6, b7, b8, b9, b10, b11, b12, b13, b14, b15] 2 8).heap ++ List.replicate q25_8.slots ⟨false, .unk⟩ } = some (s9I ts [b0, b1, b2, b3, b4, b5, b6, b7, b8, b9, b10, b11, b12, b13, b14, b15] 2 8) := by kernel_rfl
theorem e9I_2_8 (call : CallF) (ts : List Int) (b0 b1 b2 b3 b4 b5 b6 b7 b8 b9 b10 b11 b12 b13 b14 b15 x y : Int) : (runOps call (sKI ts [b0, b1, b2, b3, b4, b5, b6, b7, b8, b9, b10, b11, b12, b13, b14, b15] 2 8).heap.length (q25_8.ops.drop 10) (applyEff (s9I ts [b0, b1, b2, b3, b4, b5, b6, b7, b8, b9, b10, b11, b12, b13, b14, b15] 2 8) (some 32) { v := .tup [.int .i64 x, .int .i64 y] })).map (fun s => { s with env := s.env.take (sKI ts [b0, b1, b2, b3, b4, b5, b6, b7, b8, b9, b10, b11, b12, b13, b14, b15] 2 8).env.length }) = some (sKI ts (([b0, b1, b2, b3, b4, b5, b6, b7, b8, b9, b10, b11, b12, b13, b14, b15].set 8 x).set (8 + 2 ^ 2) y) 2 8) := by kernel_rfl
theorem e7I_2_9 (ts b : List Int) : runReg cB q25_7 (sGI ts b 2 9) = some (sKI ts b 2 9) := by kernel_rfl
theorem e8I_2_9 (call : CallF) (ts : List Int) (b0 b1 b2 b3 b4 b5 b6 b7 b8 b9 b10 b11 b12 b13 b14 b15 : Int) : runOps call (sKI ts [b0, b1, b2, b3, b4, b5, b6, b7, b8, b9, b10, b11, b12, b13, b14, b15] 2 9).heap.length (q25_8.ops.take 9) { sKI ts [b0, b1, b2, b3, b4, b5, b6, b7, b8, b9, b10, b11, b12, b13, b14, b15] 2 9 with env := (sKI ts [b0, b1, b2, b3, b4, b5, b6, b7, b8, b9, b10, b11, b12, b13, b14, b15] 2 9).env ++ q25_8.own.map fun t => (t, .unk), heap := (sKI ts [b0, b1, b2, b3, b4, b5, b6, b7, b8, b9, b10, b11, b12, b13, b14, b15] 2 9).heap ++ List.replicate q25_8.slots ⟨false, .unk⟩ } = some (s9I ts [b0, b1, b2, b3, b4, b5, b6, b7, b8, b9, b10, b11, b12, b13, b14, b15] 2 9) := by kernel_rfl
theorem e9I_2_9 (call : CallF) (ts : List Int) (b0 b1 b2 b3 b4 b5 b6 b7 b8 b9 b10 b11 b12 b13 b14 b15 x y : Int) : (runOps call (sKI ts [b0, b1, b2, b3, b4, b5, b6, b7, b8, b9, b10, b11, b12, b13, b14, b15] 2 9).heap.length (q25_8.ops.drop 10) (applyEff (s9I ts [b0, b1, b2, b3, b4, b5, b6, b7, b8, b9, b10, b11, b12, b13, b14, b15] 2 9) (some 32) { v := .tup [.int .i64 x, .int .i64 y] })).map (fun s => { s with env := s.env.take (sKI ts [b0, b1, b2, b3, b4, b5, b6, b7, b8, b9, b10, b11, b12, b13, b14, b15] 2 9).env.length }) = some (sKI ts (([b0, b1, b2, b3, b4, b5, b6, b7, b8, b9, b10, b11, b12, b13, b14, b15].set 9 x).set (9 + 2 ^ 2) y) 2 9) := by kernel_rfl
theorem e7I_2_10 (ts b : List Int) : runReg cB q25_7 (sGI ts b 2 10) = some (sKI ts b 2 10) := by kernel_rfl
theorem e8I_2_10 (call : CallF) (ts : List Int) (b0 b1 b2 b3 b4 b5 b6 b7 b8 b9 b10 b11 b12 b13 b14 b15 : Int) : runOps call (sKI ts [b0, b1, b2, b3, b4, b5, b6, b7, b8, b9, b10, b11, b12, b13, b14, b15] 2 10).heap.length (q25_8.ops.take 9) { sKI ts [b0, b1, b2, b3, b4, b5, b6, b7, b8, b9, b10, b11, b12, b13, b14, b15] 2 10 with env := (sKI ts [b0, b1, b2, b3, b4, b5, b6, b7, b8, b9, b10, b11, b12, b13, b14, b15] 2 10).env ++ q25_8.own.map fun t => (t, .unk), heap := (sKI ts [b0, b1, b2, b3, b4, b5, b6, b7, b8, b9, b10, b11, b12, b13, b14, b15] 2 10).heap ++ List.replicate q25_8.slots ⟨false, .unk⟩ } = some (s9I ts [b0, b1, b2, b3, b4, b5, b6, b7, b8, b9, b10, b11, b12, b13, b14, b15] 2 10) := by kernel_rfl
theorem e9I_2_10 (call : CallF) (ts : List Int) (b0 b1 b2 b3 b4 b5 b6 b7 b8 b9 b10 b11 b12 b13 b14 b15 x y : Int) : (runOps call (sKI ts [b0, b1, b2, b3, b4, b5, b6, b7, b8, b9, b10, b11, b12, b13, b14, b15] 2 10).heap.length (q25_8.ops.drop 10) (applyEff (s9I ts [b0, b1, b2, b3, b4, b5, b6, b7, b8, b9, b10, b11, b12, b13, b14, b15] 2 10) (some 32) { v := .tup [.int .i64 x, .int .i64 y] })).map (fun s => { s with env := s.env.take (sKI ts [b0, b1, b2, b3, b4, b5, b6, b7, b8, b9, b10, b11, b12, b13, b14, b15] 2 10).env.length }) = some (sKI ts (([b0, b1, b2, b3, b4, b5, b6, b7, b8, b9, b10, b11, b12, b13, b14, b15].set 10 x).set (10 + 2 ^ 2) y) 2 10) := by kernel_rfl
theorem e7I_2_11 (ts b : List Int) : runReg cB q25_7 (sGI ts b 2 11) = some (sKI ts b 2 11) := by kernel_rfl
theorem e8I_2_11 (call : CallF) (ts : List Int) (b0 b1 b2 b3 b4 b5 b6 b7 b8 b9 b10 b11 b12 b13 b14 b15 : Int) : runOps call (sKI ts [b0, b1, b2, b3, b4, b5, b6, b7, b8, b9, b10, b11, b12, b13, b14, b15] 2 11).heap.length (q25_8.ops.take 9) { sKI ts [b0, b1, b2, b3, b4, b5, b6, b7, b8, b9, b10, b11, b12, b13, b14, b15] 2 11 with env := (sKI ts [b0, b1, b2, b3, b4, b5, b6, b7, b8, b9, b10, b11, b12, b13, b14, b15] 2 11).env ++ q25_8.own.map fun t => (t, .unk), heap := (sKI ts [b0, b1, b2, b3, b4, b5, b6, b7, b8, b9, b10, b11, b12, b13, b14, b15] 2 11).heap ++ List.replicate q25_8.slots ⟨false, .unk⟩ } = some (s9I ts [b0, b1, b2, b3, b4, b5, b6, b7, b8, b9, b10, b11, b12, b13, b14, b15] 2 11) := by kernel_rfl
theorem e9I_2_11 (call : CallF) (ts : List Int) (b0 b1 b2 b3 b4 b5 b6 b7 b8 b9 b10 b11 b12 b13 b14 b15 x y : Int) : (runOps call (sKI ts [b0, b1, b2, b3, b4, b5, b6, b7, b8, b9, b10, b11, b12, b13, b14, b15] 2 11).heap.length (q25_8.ops.drop 10) (applyEff (s9I ts [b0, b1, b2, b3, b4, b5, b6, b7, b8, b9, b10, b11, b12, b13, b14, b15] 2 11) (some 32) { v := .tup [.int .i64 x, .int .i64 y] })).map (fun s => { s with env := s.env.take (sKI ts [b0, b1, b2, b3, b4, b5, b6, b7, b8, b9, b10, b11, b12, b13, b14, b15] 2 11).env.length }) = some (sKI ts (([b0, b1, b2, b3, b4, b5, b6, b7, b8, b9, b10, b11, b12, b13, b14, b15].set 11 x).set (11 + 2 ^ 2) y) 2 11) := by kernel_rfl
theorem e7I_3_0 (ts b : List Int) : runReg cB q25_7 (sGI ts b 3 0) = some (sKI ts b 3 0) := by kernel_rfl
theorem e8I_3_0 (call : CallF) (ts : List Int) (b0 b1 b2 b3 b4 b5 b6 b7 b8 b9 b10 b11 b12 b13 b14 b15 : Int) : runOps call (sKI ts [b0, b1, b2, b3, b4, b5, b6, b7, b8, b9, b10, b11, b12, b13, b14, b15] 3 0).heap.length (q25_8.ops.take 9) { sKI ts [b0, b1, b2, b3, b4, b5, b6, b7, b8, b9, b10, b11, b12, b13, b14, b15] 3 0 with env := (sKI ts [b0, b1, b2, b3, b4, b5, b6, b7, b8, b9, b10, b11, b12, b13, b14, b15] 3 0).env ++ q25_8.own.map fun t => (t, .unk), heap := (sKI ts [b0, b1, b2, b3, b4, b5, b6, b7, b8, b9, b10, b11, b12, b13, b14, b15] 3 0).heap ++ List.replicate q25_8.slots ⟨false, .unk⟩ } = some (s9I ts [b0, b1, b2, b3, b4, b5, b6, b7, b8, b9, b10, b11, b12, b13, b14, b15] 3 0) := by kernel_rfl
theorem e9I_3_0 (call : CallF) (ts : List Int) (b0 b1 b2 b3 b4 b5 b6 b7 b8 b9 b10 b11 b12 b13 b14 b15 x y : Int) : (runOps call (sKI ts [b0, b1, b2, b3, b4, b5, b6, b7, b8, b9, b10, b11, b12, b13, b14, b15] 3 0).heap.length (q25_8.ops.drop 10) (applyEff (s9I ts [b0, b1, b2, b3, b4, b5, b6, b7, b8, b9, b10, b11, b12, b13, b14, b15] 3 0) (some 32) { v := .tup [.int .i64 x, .int .i64 y] })).map (fun s => { s with env := s.env.take (sKI ts [b0, b1, b2, b3, b4, b5, b6, b7, b8, b9, b10, b11, b12, b13, b14, b15] 3 0).env.length }) = some (sKI ts (([b0, b1, b2, b3, b4, b5, b6, b7, b8, b9, b10, b11, b12, b13, b14, b15].set 0 x).set (0 + 2 ^ 3) y) 3 0) := by kernel_rfl
theorem e7I_3_1 (ts b : List Int) : runReg cB q25_7 (sGI ts b 3 1) = some (sKI ts b 3 1) := by kernel_rfl
theorem e8I_3_1 (call : CallF) (ts : List Int) (b0 b1 b2 b3 b4 b5 b6 b7 b8 b9 b10 b11 b12 b13 b14 b15 : Int) : runOps call (sKI ts [b0, b1, b2, b3, b4, b5, b6, b7, b8, b9, b10, b11, b12, b13, b14, b15] 3 1).heap.length (q25_8.ops.take 9) { sKI ts [b0, b1, b2, b3, b4, b5, b6, b7, b8, b9, b10, b11, b12, b13, b14, b15] 3 1 with env := (sKI ts [b0, b1, b2, b3, b4, b5, b6, b7, b8, b9, b10, b11, b12, b13, b14, b15] 3 1).env ++ q25_8.own.map fun t => (t, .unk), heap := (sKI ts [b0, b1, b2, b3, b4, b5, b6, b7, b8, b9, b10, b11, b12, b13, b14, b15] 3 1).heap ++ List.replicate q25_8.slots ⟨false, .unk⟩ } = some (s9I ts [b0, b1, b2, b3, b4, b5, b6, b7, b8, b9, b10, b11, b12, b13, b14, b15] 3 1) := by kernel_rfl
theorem e9I_3_1 (call : CallF) (ts : List Int) (b0 b1 b2 b3 b4 b5 b6 b7 b8 b9 b10 b11 b12 b13 b14 b15 x y : Int) : (runOps call (sKI ts [b0, b1, b2, b3, b4, b5, b6, b7, b8, b9, b10, b11, b12, b13, b14, b15] 3 1).heap.length (q25_8.ops.drop 10) (applyEff (s9I ts [b0, b1, b2, b3, b4, b5, b6, b7, b8, b9, b10, b11, b12, b13, b14, b15] 3 1) (some 32) { v := .tup [.int .i64 x, .int .i64 y] })).map (fun s => { s with env := s.env.take (sKI ts [b0, b1, b2, b3, b4, b5, b6, b7, b8, b9, b10, b11, b12, b13, b14, b15] 3 1).env.length }) = some (sKI ts (([b0, b1, b2, b3, b4, b5, b6, b7, b8, b9, b10, b11, b12, b13, b14, b15].set 1 x).set (1 + 2 ^ 3) y) 3 1) := by kernel_rfl
theorem e7I_3_2 (ts b : List Int) : runReg cB q25_7 (sGI ts b 3 2) = some (sKI ts b 3 2) := by kernel_rfl
theorem e8I_3_2 (call : CallF) (ts : List Int) (b0 b1 b2 b3 b4 b5 b6 b7 b8 b9 b10 b11 b12 b13 b14 b15 : Int) : runOps call (sKI ts [b0, b1, b2, b3, b4, b5, b6, b7, b8, b9, b10, b11, b12, b13, b14, b15] 3 2).heap.length (q25_8.ops.take 9) { sKI ts [b0, b1, b2, b3, b4, b5, b6, b7, b8, b9, b10, b11, b12, b13, b14, b15] 3 2 with env := (sKI ts [b0, b1, b2, b3, b4, b5, b6, b7, b8, b9, b10, b11, b12, b13, b14, b15] 3 2).env ++ q25_8.own.map fun t => (t, .unk), heap := (sKI ts [b0, b1, b2, b3, b4, b5, b6, b7, b8, b9, b10, b11, b12, b13, b14, b15] 3 2).heap ++ List.replicate q25_8.slots ⟨false, .unk⟩ } = some (s9I ts [b0, b1, b2, b3, b4, b5, b6, b7, b8, b9, b10, b11, b12, b13, b14, b15] 3 2) := by kernel_rfl
theorem e9I_3_2 (call : CallF) (ts : List Int) (b0 b1 b2 b3 b4 b5 b6 b7 b8 b9 b10 b11 b12 b13 b14 b15 x y : Int) : (runOps call (sKI ts [b0, b1, b2, b3, b4, b5, b6, b7, b8, b9, b10, b11, b12, b13, b14, b15] 3 2).heap.length (q25_8.ops.drop 10) (applyEff (s9I ts [b0, b1, b2, b3, b4, b5, b6, b7, b8, b9, b10, b11, b12, b13, b14, b15] 3 2) (some 32) { v := .tup [.int .i64 x, .int .i64 y] })).map (fun s => { s with env := s.env.take (sKI ts [b0, b1, b2, b3, b4, b5, b6, b7, b8, b9, b10, b11, b12, b13, b14, b15] 3 2).env.length }) = some (sKI ts (([b0, b1, b2, b3, b4, b5, b6, b7, b8, b9, b10, b11, b12, b13, b14, b15].set 2 x).set (2 + 2 ^ 3) y) 3 2) := by kernel_rfl
theorem e7I_3_3 (ts b : List Int) : runReg cB q25_7 (sGI ts b 3 3) = some (sKI ts b 3 3) := by kernel_rfl
theorem e8I_3_3 (call : CallF) (ts : List Int) (b0 b1 b2 b3 b4 b5 b6 b7 b8 b9 b10 b11 b12 b13 b14 b15 : Int) : runOps call (sKI ts [b0, b1, b2, b3, b4, b5, b6, b7, b8, b9, b10, b11, b12, b13, b14, b15] 3 3).heap.length (q25_8.ops.take 9) { sKI ts [b0, b1, b2, b3, b4, b5, b6, b7, b8, b9, b10, b11, b12, b13, b14, b15] 3 3 with env := (sKI ts [b0, b1, b2, b3, b4, b5, b6, b7, b8, b9, b10, b11, b12, b13, b14, b15] 3 3).env ++ q25_8.own.map fun t => (t, .unk), heap := (sKI ts [b0, b1, b2, b3, b4, b5, b6, b7, b8, b9, b10, b11, b12, b13, b14, b15] 3 3).heap ++ List.replicate q25_8.slots ⟨false, .unk⟩ } = some (s9I ts [b0, b1, b2, b3, b4, b5, b6, b7, b8, b9, b10, b11, b12, b13, b14, b15] 3 3) := by kernel_rfl
theorem e9I_3_3 (call : CallF) (ts : List Int) (b0 b1 b2 b3 b4 b5 b6 b7 b8 b9 b10 b11 b12 b13 b14 b15 x y : Int) : (runOps call (sKI ts [b0, b1, b2, b3, b4, b5, b6, b7, b8, b9, b10, b11, b12, b13, b14, b15] 3 3).heap.length (q25_8.ops.drop 10) (applyEff (s9I ts [b0, b1, b2, b3, b4, b5, b6, b7, b8, b9, b10, b11, b12, b13, b14, b15] 3 3) (some 32) { v := .tup [.int .i64 x, .int .i64 y] })).map (fun s => { s with env := s.env.take (sKI ts [b0, b1, b2, b3, b4, b5, b6, b7, b8, b9, b10, b11, b12, b13, b14, b15] 3 3).env.length }) = some (sKI ts (([b0, b1, b2, b3, b4, b5, b6, b7, b8, b9, b10, b11, b12, b13, b14, b15].set 3 x).set (3 + 2 ^ 3) y) 3 3) := by kernel_rfl
theorem e7I_3_4 (ts b : List Int) : runReg cB q25_7 (sGI ts b 3 4) = some (sKI ts b 3 4) := by kernel_rfl
theorem e8I_3_4 (call : CallF) (ts : List Int) (b0 b1 b2 b3 b4 b5 b6 b7 b8 b9 b10 b11 b12 b13 b14 b15 : Int) : runOps call (sKI ts [b0, b1, b2, b3, b4, b5, b6, b7, b8, b9, b10, b11, b12, b13, b14, b15] 3 4).heap.length (q25_8.ops.take 9) { sKI ts [b0, b1, b2, b3, b4, b5, b6, b7, b8, b9, b10, b11, b12, b13, b14, b15] 3 4 with env := (sKI ts [b0, b1, b2, b3, b4, b5, b6, b7, b8, b9, b10, b11, b12, b13, b14, b15] 3 4).env ++ q25_8.own.map fun t => (t, .unk), heap := (sKI ts [b0, b1, b2, b3, b4, b5, b6, b7, b8, b9, b10, b11, b12, b13, b14, b15] 3 4).heap ++ List.replicate q25_8.slots ⟨false, .unk⟩ } = some (s9I ts [b0, b1, b2, b3, b4, b5, b6, b7, b8, b9, b10, b11, b12, b13, b14, b15] 3 4) := by kernel_rfl
theorem e9I_3_4 (call : CallF) (ts : List Int) (b0 b1 b2 b3 b4 b5 b6 b7 b8 b9 b10 b11 b12 b13 b14 b15 x y : Int) : (runOps call (sKI ts [b0, b1, b2, b3, b4, b5, b6, b7, b8, b9, b10, b11, b12, b13, b14, b15] 3 4).heap.length (q25_8.ops.drop 10) (applyEff (s9I ts [b0, b1, b2, b3, b4, b5, b6, b7, b8, b9, b10, b11, b12, b13, b14, b15] 3 4) (some 32) { v := .tup [.int .i64 x, .int .i64 y] })).map (fun s => { s with env := s.env.take (sKI ts [b0, b1, b2, b3, b4, b5, b6, b7, b8, b9, b10, b11, b12, b13, b14, b15] 3 4).env.length }) = some (sKI ts (([b0, b1, b2, b3, b4, b5, b6, b7, b8, b9, b10, b11, b12, b13, b14, b15].set 4 x).set (4 + 2 ^ 3) y) 3 4) := by kernel_rfl
theorem e7I_3_5 (ts b : List Int) : runReg cB q25_7 (sGI ts b 3 5) = some (sKI ts b 3 5) := by kernel_rfl
theorem e8I_3_5 (call : CallF) (ts : List Int) (b0 b1 b2 b3 b4 b5 b6 b7 b8 b9 b10 b11 b12 b13 b14 b15 : Int) : runOps call (sKI ts [b0, b1, b2, b3, b4, b5, b6, b7, b8, b9, b10, b11, b12, b13, b14, b15] 3 5).heap.length (q25_8.ops.take 9) { sKI ts [b0, b1, b2, b3, b4, b5, b6, b7, b8, b9, b10, b11, b12, b13, b14, b15] 3 5 with env := (sKI ts [b0, b1, b2, b3, b4, b5, b6, b7, b8, b9, b10, b11, b12, b13, b14, b15] 3 5).env ++ q25_8.own.map fun t => (t, .unk), heap := (sKI ts [b0, b1, b2, b3, b4, b5, b6, b7, b8, b9, b10, b11, b12, b13, b14, b15] 3 5).heap ++ List.replicate q25_8.slots ⟨false, .unk⟩ } = some (s9I ts [b0, b1, b2, b3, b4, b5, b6, b7, b8, b9, b10, b11, b12, b13, b14, b15] 3 5) := by kernel_rfl
theorem e9I_3_5 (call : CallF) (ts : List Int) (b0 b1 b2 b3 b4 b5 b6 b7 b8 b9 b10 b11 b12 b13 b14 b15 x y : Int) : (runOps call (sKI ts [b0, b1, b2, b3, b4, b5, b6, b7, b8, b9, b10, b11, b12, b13, b14, b15] 3 5).heap.length (q25_8.ops.drop 10) (applyEff (s9I ts [b0, b1, b2, b3, b4, b5, b6, b7, b8, b9, b10, b11, b12, b13, b14, b15] 3 5) (some 32) { v := .tup [.int .i64 x, .int .i64 y] })).map (fun s => { s with env := s.env.take (sKI ts [b0, b1, b2, b3, b4, b5, b6, b7, b8, b9, b10, b11, b12, b13, b14, b15] 3 5).env.length }) = some (sKI ts (([b0, b1, b2, b3, b4, b5, b6, b7, b8, b9, b10, b11, b12, b13, b14, b15].set 5 x).set (5 + 2 ^ 3) y) 3 5) := by kernel_rfl
theorem e7I_3_6 (ts b : List Int) : runReg cB q25_7 (sGI ts b 3 6) = some (sKI ts b 3 6) := by kernel_rfl
theorem e8I_3_6 (call : CallF) (ts : List Int) (b0 b1 b2 b3 b4 b5 b6 b7 b8 b9 b10 b11 b12 b13 b14 b15 : Int) : runOps call (sKI ts [b0, b1, b2, b3, b4, b5, b6, b7, b8, b9, b10, b11, b12, b13, b14, b15] 3 6).heap.length (q25_8.ops.take 9) { sKI ts [b0, b1, b2, b3, b4, b5, b6, b7, b8, b9, b10, b11, b12, b13, b14, b15] 3 6 with env := (sKI ts [b0, b1, b2, b3, b4, b5, b6, b7, b8, b9, b10, b11, b12, b13, b14, b15] 3 6).env ++ q25_8.own.map fun t => (t, .unk), heap := (sKI ts [b0, b1, b2, b3, b4, b5, b6, b7, b8, b9, b10, b11, b12, b13, b14, b15] 3 6).heap ++ List.replicate q25_8.slots ⟨false, .unk⟩ } = some (s9I ts [b0, b1, b2, b3, b4, b5, b6, b7, b8, b9, b10, b11, b12, b13, b14, b15] 3 6) := by kernel_rfl
theorem e9I_3_6 (call : CallF) (ts : List Int) (b0 b1 b2 b3 b4 b5 b6 b7 b8 b9 b10 b11 b12 b13 b14 b15 x y : Int) : (runOps call (sKI ts [b0, b1, b2, b3, b4, b5, b6, b7, b8, b9, b10, b11, b12, b13, b14, b15] 3 6).heap.length (q25_8.ops.drop 10) (applyEff (s9I ts [b0, b1, b2, b3, b4, b5, b6, b7, b8, b9, b10, b11, b12, b13, b14, b15] 3 6) (some 32) { v := .tup [.int .i64 x, .int .i64 y] })).map (fun s => { s with env := s.env.take (sKI ts [b0, b1, b2, b3, b4, b5, b6, b7, b8, b9, b10, b11, b12, b13, b14, b15] 3 6).env.length }) = some (sKI ts (([b0, b1, b2, b3, b4, b5, b6, b7, b8, b9, b10, b11, b12, b13, b14, b15].set 6 x).set (6 + 2 ^ 3) y) 3 6) := by kernel_rfl
theorem e7I_3_7 (ts b : List Int) : runReg cB q25_7 (sGI ts b 3 7) = some (sKI ts b 3 7) := by kernel_rfl
theorem e8I_3_7 (call : CallF) (ts : List Int) (b0 b1 b2 b3 b4 b5 b6 b7 b8 b9 b10 b11 b12 b13 b14 b15 : Int) : runOps call (sKI ts [b0, b1, b2, b3, b4, b5, b6, b7, b8, b9, b10, b11, b12, b13, b14, b15] 3 7).heap.length (q25_8.ops.take 9) { sKI ts [b0, b1, b2, b3, b4, b5, b6, b7, b8, b9, b10, b11, b12, b13, b14, b15] 3 7 with env := (sKI ts [b0, b1, b2, b3, b4, b5, b6, b7, b8, b9, b10, b11, b12, b13, b14, b15] 3 7).env ++ q25_8.own.map fun t => (t, .unk), heap := (sKI ts [b0, b1, b2, b3, b4, b5, b6, b7, b8, b9, b10, b11, b12, b13, b14, b15] 3 7).heap ++ List.replicate q25_8.slots ⟨false, .unk⟩ } = some (s9I ts [b0, b1, b2, b3, b4, b5, b6, b7, b8, b9, b10, b11, b12, b13, b14, b15] 3 7) := by kernel_rfl
theorem e9I_3_7 (call : CallF) (ts : List Int) (b0 b1 b2 b3 b4 b5 b6 b7 b8 b9 b10 b11 b12 b13 b14 b15 x y : Int) : (runOps call (sKI ts [b0, b1, b2, b3, b4, b5, b6, b7, b8, b9, b10, b11, b12, b13, b14, b15] 3 7).heap.length (q25_8.ops.drop 10) (applyEff (s9I ts [b0, b1, b2, b3, b4, b5, b6, b7, b8, b9, b10, b11, b12, b13, b14, b15] 3 7) (some 32) { v := .tup [.int .i64 x, .int .i64 y] })).map (fun s => { s with env := s.env.take (sKI ts [b0, b1, b2, b3, b4, b5, b6, b7, b8, b9, b10, b11, b12, b13, b14, b15] 3 7).env.length }) = some (sKI ts (([b0, b1, b2, b3, b4, b5, b6, b7, b8, b9, b10, b11, b12, b13, b14, b15].set 7 x).set (7 + 2 ^ 3) y) 3 7) := by kernel_rfl
theorem e7I (ts b : List Int) (r i : Nat) (hr : r < 4) (hi : i < 16) (h : isP r i = true) : runReg cB q25_7 (sGI ts b r i) = some (sKI ts b r i) := by
  match r, i, hr, hi, h with
  | 0, 0, _, _, _ => exact e7I_0_0 ts b
  | 0, 1, _, _, h => exact absurd h (by decide)
  | 0, 2, _, _, _ => exact e7I_0_2 ts b
  | 0, 3, _, _, h => exact absurd h (by decide)
  | 0, 4, _, _, _ => exact e7I_0_4 ts b
  | 0, 5, _, _, h => exact absurd h (by decide)
  | 0, 6, _, _, _ => exact e7I_0_6 ts b
  | 0, 7, _, _, h => exact absurd h (by decide)
  | 0, 8, _, _, _ => exact e7I_0_8 ts b
  | 0, 9, _, _, h => exact absurd h (by decide)
  | 0, 10, _, _, _ => exact e7I_0_10 ts b
  | 0, 11, _, _, h => exact absurd h (by decide)
  | 0, 12, _, _, _ => exact e7I_0_12 ts b
  | 0, 13, _, _, h => exact absurd h (by decide)
  | 0, 14, _, _, _ => exact e7I_0_14 ts b
  | 0, 15, _, _, h => exact absurd h (by decide)
  | 1, 0, _, _, _ => exact e7I_1_0 ts b
  | 1, 1, _, _, _ => exact e7I_1_1 ts b
  | 1, 2, _, _, h => exact absurd h (by decide)
  | 1, 3, _, _, h => exact absurd h (by decide)
  | 1, 4, _, _, _ => exact e7I_1_4 ts b
  | 1, 5, _, _, _ => exact e7I_1_5 ts b
  | 1, 6, _, _, h => exact absurd h (by decide)
  | 1, 7, _, _, h => exact absurd h (by decide)
  | 1, 8, _, _, _ => exact e7I_1_8 ts b
  | 1, 9, _, _, _ => exact e7I_1_9 ts b
  | 1, 10, _, _, h => exact absurd h (by decide)
  | 1, 11, _, _, h => exact absurd h (by decide)
  | 1, 12, _, _, _ => exact e7I_1_12 ts b
  | 1, 13, _, _, _ => exact e7I_1_13 ts b
  | 1, 14, _, _, h => exact absurd h (by decide)
  | 1, 15, _, _, h => exact absurd h (by decide)
  | 2, 0, _, _, _ => exact e7I_2_0 ts b
  | 2, 1, _, _, _ => exact e7I_2_1 ts b
  | 2, 2, _, _, _ => exact e7I_2_2 ts b
  | 2, 3, _, _, _ => exact e7I_2_3 ts b
  | 2, 4, _, _, h => exact absurd h (by decide)
  | 2, 5, _, _, h => exact absurd h (by decide)
  | 2, 6, _, _, h => exact absurd h (by decide)
  | 2, 7, _, _, h => exact absurd h (by decide)
  | 2, 8, _, _, _ => exact e7I_2_8 ts b
  | 2, 9, _, _, _ => exact e7I_2_9 ts b
  | 2, 10, _, _, _ => exact e7I_2_10 ts b
  | 2, 11, _, _, _ => exact e7I_2_11 ts b
  | 2, 12, _, _, h => exact absurd h (by decide)
  | 2, 13, _, _, h => exact absurd h (by decide)
  | 2, 14, _, _, h => exact absurd h (by decide)
  | 2, 15, _, _, h => exact absurd h (by decide)
  | 3, 0, _, _, _ => exact e7I_3_0 ts b
  | 3, 1, _, _, _ => exact e7I_3_1 ts b
  | 3, 2, _, _, _ => exact e7I_3_2 ts b
  | 3, 3, _, _, _ => exact e7I_3_3 ts b
  | 3, 4, _, _, _ => exact e7I_3_4 ts b
  | 3, 5, _, _, _ => exact e7I_3_5 ts b
  | 3, 6, _, _, _ => exact e7I_3_6 ts b
  | 3, 7, _, _, _ => exact e7I_3_7 ts b
  | 3, 8, _, _, h => exact absurd h (by decide)
  | 3, 9, _, _, h => exact absurd h (by decide)
  | 3, 10, _, _, h => exact absurd h (by decide)
  | 3, 11, _, _, h => exact absurd h (by decide)
  | 3, 12, _, _, h => exact absurd h (by decide)
  | 3, 13, _, _, h => exact absurd h (by decide)
  | 3, 14, _, _, h => exact absurd h (by decide)
  | 3, 15, _, _, h => exact absurd h (by decide)
  | r, i + 16, _, h, _ => exact absurd h (by omega)
  | r + 4, i, h, _, _ => exact absurd h (by omega)
theorem e8I (call : CallF) (ts b : List Int) (hb : b.length = 16) (r i : Nat) (hr : r < 4) (hi : i < 16) (h : isP r i = true) : runOps call (sKI ts b r i).heap.length (q25_8.ops.take 9) { sKI ts b r i with env := (sKI ts b r i).env ++ q25_8.own.map fun t => (t, .unk), heap := (sKI ts b r i).heap ++ List.replicate q25_8.slots ⟨false, .unk⟩ } = some (s9I ts b r i) := by
  obtain ⟨b0, b1, b2, b3, b4, b5, b6, b7, b8, b9, b10, b11, b12, b13, b14, b15, rfl⟩ := len16 hb
  match r, i, hr, hi, h with
  | 0, 0, _, _, _ => exact e8I_0_0 call ts b0 b1 b2 b3 b4 b5 b6 b7 b8 b9 b10 b11 b12 b13 b14 b15
  | 0, 1, _, _, h => exact absurd h (by decide)
  | 0, 2, _, _, _ => exact e8I_0_2 call ts b0 b1 b2 b3 b4 b5 b6 b7 b8 b9 b10 b11 b12 b13 b14 b15
  | 0, 3, _, _, h => exact absurd h (by decide)
  | 0, 4, _, _, _ => exact e8I_0_4 call ts b0 b1 b2 b3 b4 b5 b6 b7 b8 b9 b10 b11 b12 b13 b14 b15
  | 0, 5, _, _, h => exact absurd h (by decide)
  | 0, 6, _, _, _ => exact e8I_0_6 call ts b0 b1 b2 b3 b4 b5 b6 b7 b8 b9 b10 b11 b12 b13 b14 b15
  | 0, 7, _, _, h => exact absurd h (by decide)
  | 0, 8, _, _, _ => exact e8I_0_8 call ts b0 b1 b2 b3 b4 b5 b6 b7 b8 b9 b10 b11 b12 b13 b14 b15
  | 0, 9, _, _, h => exact absurd h (by decide)
  | 0, 10, _, _, _ => exact e8I_0_10 call ts b0 b1 b2 b3 b4 b5 b6 b7 b8 b9 b10 b11 b12 b13 b14 b15
  | 0, 11, _, _, h => exact absurd h (by decide)
  | 0, 12, _, _, _ => exact e8I_0_12 call ts b0 b1 b2 b3 b4 b5 b6 b7 b8 b9 b10 b11 b12 b13 b14 b15
  | 0, 13, _, _, h => exact absurd h (by decide)
  | 0, 14, _, _, _ => exact e8I_0_14 call ts b0 b1 b2 b3 b4 b5 b6 b7 b8 b9 b10 b11 b12 b13 b14 b15
  | 0, 15, _, _, h => exact absurd h (by decide)
  | 1, 0, _, _, _ => exact e8I_1_0 call ts b0 b1 b2 b3 b4 b5 b6 b7 b8 b9 b10 b11 b12 b13 b14 b15
  | 1, 1, _, _, _ => exact e8I_1_1 call ts b0 b1 b2 b3 b4 b5 b6 b7 b8 b9 b10 b11 b12 b13 b14 b15
  | 1, 2, _, _, h => exact absurd h (by decide)
  | 1, 3, _, _, h => exact absurd h (by decide)
  | 1, 4, _, _, _ => exact e8I_1_4 call ts b0 b1 b2 b3 b4 b5 b6 b7 b8 b9 b10 b11 b12 b13 b14 b15
  | 1, 5, _, _, _ => exact e8I_1_5 call ts b0 b1 b2 b3 b4 b5 b6 b7 b8 b9 b10 b11 b12 b13 b14 b15
  | 1, 6, _, _, h => exact absurd h (by decide)
  | 1, 7, _, _, h => exact absurd h (by decide)
  | 1, 8, _, _, _ => exact e8I_1_8 call ts b0 b1 b2 b3 b4 b5 b6 b7 b8 b9 b10 b11 b12 b13 b14 b15
  | 1, 9, _, _, _ => exact e8I_1_9 call ts b0 b1 b2 b3 b4 b5 b6 b7 b8 b9 b10 b11 b12 b13 b14 b15
  | 1, 10, _, _, h => exact absurd h (by decide)
  | 1, 11, _, _, h => exact absurd h (by decide)
  | 1, 12, _, _, _ => exact e8I_1_12 call ts b0 b1 b2 b3 b4 b5 b6 b7 b8 b9 b10 b11 b12 b13 b14 b15
  | 1, 13, _, _, _ => exact e8I_1_13 call ts b0 b1 b2 b3 b4 b5 b6 b7 b8 b9 b10 b11 b12 b13 b14 b15
  | 1, 14, _, _, h => exact absurd h (by decide)
  | 1, 15, _, _, h => exact absurd h (by decide)
  | 2, 0, _, _, _ => exact e8I_2_0 call ts b0 b1 b2 b3 b4 b5 b6 b7 b8 b9 b10 b11 b12 b13 b14 b15
  | 2, 1, _, _, _ => exact e8I_2_1 call ts b0 b1 b2 b3 b4 b5 b6 b7 b8 b9 b10 b11 b12 b13 b14 b15
  | 2, 2, _, _, _ => exact e8I_2_2 call ts b0 b1 b2 b3 b4 b5 b6 b7 b8 b9 b10 b11 b12 b13 b14 b15
  | 2, 3, _, _, _ => exact e8I_2_3 call ts b0 b1 b2 b3 b4 b5 b6 b7 b8 b9 b10 b11 b12 b13 b14 b15
  | 2, 4, _, _, h => exact absurd h (by decide)
  | 2, 5, _, _, h => exact absurd h (by decide)
  | 2, 6, _, _, h => exact absurd h (by decide)
  | 2, 7, _, _, h => exact absurd h (by decide)
  | 2, 8, _, _, _ => exact e8I_2_8 call ts b0 b1 b2 b3 b4 b5 b6 b7 b8 b9 b10 b11 b12 b13 b14 b15
  | 2, 9, _, _, _ => exact e8I_2_9 call ts b0 b1 b2 b3 b4 b5 b6 b7 b8 b9 b10 b11 b12 b13 b14 b15
  | 2, 10, _, _, _ => exact e8I_2_10 call ts b0 b1 b2 b3 b4 b5 b6 b7 b8 b9 b10 b11 b12 b13 b14 b15
  | 2, 11, _, _, _ => exact e8I_2_11 call ts b0 b1 b2 b3 b4 b5 b6 b7 b8 b9 b10 b11 b12 b13 b14 b15
  | 2, 12, _, _, h => exact absurd h (by decide)
  | 2, 13, _, _, h => exact absurd h (by decide)
  | 2, 14, _, _, h => exact absurd h (by decide)
  | 2, 15, _, _, h => exact absurd h (by decide)
  | 3, 0, _, _, _ => exact e8I_3_0 call ts b0 b1 b2 b3 b4 b5 b6 b7 b8 b9 b10 b11 b12 b13 b14 b15
  | 3, 1, _, _, _ => exact e8I_3_1 call ts b0 b1 b2 b3 b4 b5 b6 b7 b8 b9 b10 b11 b12 b13 b14 b15
  | 3, 2, _, _, _ => exact e8I_3_2 call ts b0 b1 b2 b3 b4 b5 b6 b7 b8 b9 b10 b11 b12 b13 b14 b15
  | 3, 3, _, _, _ => exact e8I_3_3 call ts b0 b1 b2 b3 b4 b5 b6 b7 b8 b9 b10 b11 b12 b13 b14 b15
  | 3, 4, _, _, _ => exact e8I_3_4 call ts b0 b1 b2 b3 b4 b5 b6 b7 b8 b9 b10 b11 b12 b13 b14 b15
  | 3, 5, _, _, _ => exact e8I_3_5 call ts b0 b1 b2 b3 b4 b5 b6 b7 b8 b9 b10 b11 b12 b13 b14 b15
  | 3, 6, _, _, _ => exact e8I_3_6 call ts b0 b1 b2 b3 b4 b5 b6 b7 b8 b9 b10 b11 b12 b13 b14 b15
  | 3, 7, _, _, _ => exact e8I_3_7 call ts b0 b1 b2 b3 b4 b5 b6 b7 b8 b9 b10 b11 b12 b13 b14 b15
  | 3, 8, _, _, h => exact absurd h (by decide)
  | 3, 9, _, _, h => exact absurd h (by decide)
  | 3, 10, _, _, h => exact absurd h (by decide)
  | 3, 11, _, _, h => exact absurd h (by decide)
  | 3, 12, _, _, h => exact absurd h (by decide)
  | 3, 13, _, _, h => exact absurd h (by decide)
  | 3, 14, _, _, h => exact absurd h (by decide)
  | 3, 15, _, _, h => exact absurd h (by decide)
  | r, i + 16, _, h, _ => exact absurd h (by omega)
  | r + 4, i, h, _, _ => exact absurd h (by omega)
theorem e9I (call : CallF) (ts b : List Int) (hb : b.length = 16) (x y : Int) (r i : Nat) (hr : r < 4) (hi : i < 16) (h : isP r i = true) : (runOps call (sKI ts b r i).heap.length (q25_8.ops.drop 10) (applyEff (s9I ts b r i) (some 32) { v := .tup [.int .i64 x, .int .i64 y] })).map (fun s => { s with env := s.env.take (sKI ts b r i).env.length }) = some (sKI ts ((b.set i x).set (i + 2 ^ r) y) r i) := by
  obtain ⟨b0, b1, b2, b3, b4, b5, b6, b7, b8, b9, b10, b11, b12, b13, b14, b15, rfl⟩ := len16 hb
  match r, i, hr, hi, h with
  | 0, 0, _, _, _ => exact e9I_0_0 call ts b0 b1 b2 b3 b4 b5 b6 b7 b8 b9 b10 b11 b12 b13 b14 b15 x y
  | 0, 1, _, _, h => exact absurd h (by decide)
  | 0, 2, _, _, _ => exact e9I_0_2 call ts b0 b1 b2 b3 b4 b5 b6 b7 b8 b9 b10 b11 b12 b13 b14 b15 x y
  | 0, 3, _, _, h => exact absurd h (by decide)
  | 0, 4, _, _, _ => exact e9I_0_4 call ts b0 b1 b2 b3 b4 b5 b6 b7 b8 b9 b10 b11 b12 b13 b14 b15 x y
  | 0, 5, _, _, h => exact absurd h (by decide)
  | 0, 6, _, _, _ => exact e9I_0_6 call ts b0 b1 b2 b3 b4 b5 b6 b7 b8 b9 b10 b11 b12 b13 b14 b15 x y
  | 0, 7, _, _, h => exact absurd h (by decide)
  | 0, 8, _, _, _ => exact e9I_0_8 call ts b0 b1 b2 b3 b4 b5 b6 b7 b8 b9 b10 b11 b12 b13 b14 b15 x y
  | 0, 9, _, _, h => exact absurd h (by decide)
  | 0, 10, _, _, _ => exact e9I_0_10 call ts b0 b1 b2 b3 b4 b5 b6 b7 b8 b9 b10 b11 b12 b13 b14 b15 x y
  | 0, 11, _, _, h => exact absurd h (by decide)
  | 0, 12, _, _, _ => exact e9I_0_12 call ts b0 b1 b2 b3 b4 b5 b6 b7 b8 b9 b10 b11 b12 b13 b14 b15 x y
  | 0, 13, _, _, h => exact absurd h (by decide)
  | 0, 14, _, _, _ => exact e9I_0_14 call ts b0 b1 b2 b3 b4 b5 b6 b7 b8 b9 b10 b11 b12 b13 b14 b15 x y
  | 0, 15, _, _, h => exact absurd h (by decide)
  | 1, 0, _, _, _ => exact e9I_1_0 call ts b0 b1 b2 b3 b4 b5 b6 b7 b8 b9 b10 b11 b12 b13 b14 b15 x y
  | 1, 1, _, _, _ => exact e9I_1_1 call ts b0 b1 b2 b3 b4 b5 b6 b7 b8 b9 b10 b11 b12 b13 b14 b15 x y
  | 1, 2, _, _, h => exact absurd h (by decide)
  | 1, 3, _, _, h => exact absurd h (by decide)
  | 1, 4, _, _, _ => exact e9I_1_4 call ts b0 b1 b2 b3 b4 b5 b6 b7 b8 b9 b10 b11 b12 b13 b14 b15 x y
  | 1, 5, _, _, _ => exact e9I_1_5 call ts b0 b1 b2 b3 b4 b5 b6 b7 b8 b9 b10 b11 b12 b13 b14 b15 x y
  | 1, 6, _, _, h => exact absurd h (by decide)
  | 1, 7, _, _, h => exact absurd h (by decide)
  | 1, 8, _, _, _ => exact e9I_1_8 call ts b0 b1 b2 b3 b4 b5 b6 b7 b8 b9 b10 b11 b12 b13 b14 b15 x y
  | 1, 9, _, _, _ => exact e9I_1_9 call ts b0 b1 b2 b3 b4 b5 b6 b7 b8 b9 b10 b11 b12 b13 b14 b15 x y
  | 1, 10, _, _, h => exact absurd h (by decide)
  | 1, 11, _, _, h => exact absurd h (by decide)
  | 1, 12, _, _, _ => exact e9I_1_12 call ts b0 b1 b2 b3 b4 b5 b6 b7 b8 b9 b10 b11 b12 b13 b14 b15 x y
  | 1, 13, _, _, _ => exact e9I_1_13 call ts b0 b1 b2 b3 b4 b5 b6 b7 b8 b9 b10 b11 b12 b13 b14 b15 x y
  | 1, 14, _, _, h => exact absurd h (by decide)
  | 1, 15, _, _, h => exact absurd h (by decide)
  | 2, 0, _, _, _ => exact e9I_2_0 call ts b0 b1 b2 b3 b4 b5 b6 b7 b8 b9 b10 b11 b12 b13 b14 b15 x y
  | 2, 1, _, _, _ => exact e9I_2_1 call ts b0 b1 b2 b3 b4 b5 b6 b7 b8 b9 b10 b11 b12 b13 b14 b15 x y
  | 2, 2, _, _, _ => exact e9I_2_2 call ts b0 b1 b2 b3 b4 b5 b6 b7 b8 b9 b10 b11 b12 b13 b14 b15 x y
  | 2, 3, _, _, _ => exact e9I_2_3 call ts b0 b1 b2 b3 b4 b5 b6 b7 b8 b9 b10 b11 b12 b13 b14 b15 x y
  | 2, 4, _, _, h => exact absurd h (by decide)
  | 2, 5, _, _, h => exact absurd h (by decide)
  | 2, 6, _, _, h => exact absurd h (by decide)
  | 2, 7, _, _, h => exact absurd h (by decide)
  | 2, 8, _, _, _ => exact e9I_2_8 call ts b0 b1 b2 b3 b4 b5 b6 b7 b8 b9 b10 b11 b12 b13 b14 b15 x y
  | 2, 9, _, _, _ => exact e9I_2_9 call ts b0 b1 b2 b3 b4 b5 b6 b7 b8 b9 b10 b11 b12 b13 b14 b15 x y
  | 2, 10, _, _, _ => exact e9I_2_10 call ts b0 b1 b2 b3 b4 b5 b6 b7 b8 b9 b10 b11 b12 b13 b14 b15 x y
  | 2, 11, _, _, _ => exact e9I_2_11 call ts b0 b1 b2 b3 b4 b5 b6 b7 b8 b9 b10 b11 b12 b13 b14 b15 x y
  | 2, 12, _, _, h => exact absurd h (by decide)
  | 2, 13, _, _, h => exact absurd h (by decide)
  | 2, 14, _, _, h => exact absurd h (by decide)
  | 2, 15, _, _, h => exact absurd h (by decide)
  | 3, 0, _, _, _ => exact e9I_3_0 call ts b0 b1 b2 b3 b4 b5 b6 b7 b8 b9 b10 b11 b12 b13 b14 b15 x y
  | 3, 1, _, _, _ => exact e9I_3_1 call ts b0 b1 b2 b3 b4 b5 b6 b7 b8 b9 b10 b11 b12 b13 b14 b15 x y
  | 3, 2, _, _, _ => exact e9I_3_2 call ts b0 b1 b2 b3 b4 b5 b6 b7 b8 b9 b10 b11 b12 b13 b14 b15 x y
  | 3, 3, _, _, _ => exact e9I_3_3 call ts b0 b1 b2 b3 b4 b5 b6 b7 b8 b9 b10 b11 b12 b13 b14 b15 x y
  | 3, 4, _, _, _ => exact e9I_3_4 call ts b0 b1 b2 b3 b4 b5 b6 b7 b8 b9 b10 b11 b12 b13 b14 b15 x y
  | 3, 5, _, _, _ => exact e9I_3_5 call ts b0 b1 b2 b3 b4 b5 b6 b7 b8 b9 b10 b11 b12 b13 b14 b15 x y
  | 3, 6, _, _, _ => exact e9I_3_6 call ts b0 b1 b2 b3 b4 b5 b6 b7 b8 b9 b10 b11 b12 b13 b14 b15 x y
  | 3, 7, _, _, _ => exact e9I_3_7 call ts b0 b1 b2 b3 b4 b5 b6 b7 b8 b9 b10 b11 b12 b13 b14 b15 x y
  | 3, 8, _, _, h => exact absurd h (by decide)
  | 3, 9, _, _, h => exact absurd h (by decide)
  | 3, 10, _, _, h => exact absurd h (by decide)
  | 3, 11, _, _, h => exact absurd h (by decide)
  | 3, 12, _, _, h => exact absurd h (by decide)
  | 3, 13, _, _, h => exact absurd h (by decide)
  | 3, 14, _, _, h => exact absurd h (by decide)
  | 3, 15, _, _, h => exact absurd h (by decide)
  | r, i + 16, _, h, _ => exact absurd h (by omega)
  | r + 4, i, h, _, _ => exact absurd h (by omega)
theorem eBI (ts b : List Int) (j : Nat) (hj : j < 4) : runReg cB q25_2 (sHdI ts b j .unk) = some (sHdI ts b j (.bool true)) := by
  match j, hj with
  | 0, _ => exact eBI_0 ts b
  | 1, _ => exact eBI_1 ts b
  | 2, _ => exact eBI_2 ts b
  | 3, _ => exact eBI_3 ts b
  | j + 4, h => exact absurd h (by omega)
theorem eCI (ts b : List Int) (hts : ts.length = 16) (j : Nat) (hj : j < 4) : ((runReg cB q25_4 (sHdI ts b j (.bool true))).bind fun st => some st) = some (sRI ts b (rdI j)) := by
  obtain ⟨t0, t1, t2, t3, t4, t5, t6, t7, t8, t9, t10, t11, t12, t13, t14, t15, rfl⟩ := len16 hts
  match j, hj with
  | 0, _ => exact eCI_0 t0 t1 t2 t3 t4 t5 t6 t7 t8 t9 t10 t11 t12 t13 t14 t15 b
  | 1, _ => exact eCI_1 t0 t1 t2 t3 t4 t5 t6 t7 t8 t9 t10 t11 t12 t13 t14 t15 b
  | 2, _ => exact eCI_2 t0 t1 t2 t3 t4 t5 t6 t7 t8 t9 t10 t11 t12 t13 t14 t15 b
  | 3, _ => exact eCI_3 t0 t1 t2 t3 t4 t5 t6 t7 t8 t9 t10 t11 t12 t13 t14 t15 b
  | j + 4, h => exact absurd h (by omega)
theorem eHI (ts b : List Int) (j : Nat) (hj : j < 4) : ((runReg cB q25_9 (sRI ts b (rdI j))).bind fun st => (runReg cB q25_10 st).bind fun st => (runReg cB q25_3 st).bind fun st => tidy 0 { st with env := killE [6, 7, 8, 10, 15, 16, 17, 37] st.env }) = some (sHdI ts b (j + 1) .unk) := by
  match j, hj with
  | 0, _ => exact eHI_0 ts b
  | 1, _ => exact eHI_1 ts b
  | 2, _ => exact eHI_2 ts b
  | 3, _ => exact eHI_3 ts b
  | j + 4, h => exact absurd h (by omega)
end Go.Proofs.Ytmmfgbifbbiihaa