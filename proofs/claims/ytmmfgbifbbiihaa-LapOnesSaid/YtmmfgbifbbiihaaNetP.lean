/-
  The rounds of net's pairs: which places, with which turns, in which order. Conditions: none.
-/
import Derived.Test.YtmmfgbifbbiihaaLoose
namespace Go.Proofs.Ytmmfgbifbbiihaa
open Go Go.Sx Go.RowKit
set_option maxRecDepth 100000
set_option linter.unusedVariables false

def zs16 : List Int := [0, 0, 0, 0, 0, 0, 0, 0, 0, 0, 0, 0, 0, 0, 0, 0]
def isP (r k : Nat) : Bool := (k >>> r) % 2 == 0
def tix (r k : Nat) : Nat := (3 * k + 5 * r) % 8
def preP (r k : Nat) : List Nat := (List.range k).filter (isP r)
def encP (ts : List Int) (r k : Nat) : Array Value := #[.int .i64 k, .agg #[.int .i64 (ts.getD (2 * tix r k) 0), .int .i64 (ts.getD (2 * tix r k + 1) 0)]]
theorem preP_next (r k : Nat) : preP r (k + 1) = if isP r k then preP r k ++ [k] else preP r k := by
  unfold preP
  rw [List.range_succ, List.filter_append]
  cases h : isP r k <;> simp [h]
theorem preP_split (r k : Nat) (hk : k < 16) (hp : isP r k = true) : ∃ post, preP r 16 = preP r k ++ k :: post := by
  have key : ∀ (j : Nat), ∃ post, preP r (k + 1 + j) = preP r (k + 1) ++ post := by
    intro j
    induction j with
    | zero => exact ⟨[], (List.append_nil _).symm⟩
    | succ j ih =>
      obtain ⟨post, hpost⟩ := ih
      rw [show k + 1 + (j + 1) = (k + 1 + j) + 1 from rfl, preP_next, hpost]
      split
      · exact ⟨post ++ [k + 1 + j], by rw [List.append_assoc]⟩
      · exact ⟨post, rfl⟩
  obtain ⟨post, hpost⟩ := key (15 - k)
  rw [show k + 1 + (15 - k) = 16 by omega, preP_next r k, hp, if_pos rfl] at hpost
  exact ⟨post, by rw [hpost, List.append_assoc]; rfl⟩
theorem len16 {l : List Int} (h : l.length = 16) : ∃ t0 t1 t2 t3 t4 t5 t6 t7 t8 t9 t10 t11 t12 t13 t14 t15, l = [t0, t1, t2, t3, t4, t5, t6, t7, t8, t9, t10, t11, t12, t13, t14, t15] := by
  match l, h with
  | [t0, t1, t2, t3, t4, t5, t6, t7, t8, t9, t10, t11, t12, t13, t14, t15], _ => exact ⟨t0, t1, t2, t3, t4, t5, t6, t7, t8, t9, t10, t11, t12, t13, t14, t15, rfl⟩

abbrev cB : CallF := evF LB.tab 3
theorem cB_ok : CallOk Try.prog cB := evF_ok LB.tabOk 3
theorem cB_can : ∀ f args h r, cB f args h = some r → callable Try.prog f = true := evF_callable LB.tabOk 3

namespace NF
/-- The rows while a round of net's runs. -/
def hp (ts b : List Int) (r : Nat) : List Row := [⟨true, .ints .i64 ts⟩, ⟨true, .ints .i64 b⟩, ⟨true, .ints .i64 zs16⟩, ⟨true, .ints .i64 [(r : Int)]⟩, ⟨true, .ints .i64 [(r : Int)]⟩, ⟨true, .ints .i64 ts⟩]
theorem hp_own (ts b : List Int) (r : Nat) : ∀ row ∈ hp ts b r, row.own = true := by
  intro row h
  simp only [hp, List.mem_cons, List.not_mem_nil, or_false] at h
  rcases h with rfl | rfl | rfl | rfl | rfl | rfl <;> rfl
theorem hp_ints (ts b : List Int) (r : Nat) : ∀ i, i < 6 → ∃ (row : Row) (kd : IntKind) (l : List Int), (hp ts b r)[i]? = some row ∧ row.c = .ints kd l := by
  intro i h
  match i, h with
  | 0, _ => exact ⟨_, _, _, rfl, rfl⟩
  | 1, _ => exact ⟨_, _, _, rfl, rfl⟩
  | 2, _ => exact ⟨_, _, _, rfl, rfl⟩
  | 3, _ => exact ⟨_, _, _, rfl, rfl⟩
  | 4, _ => exact ⟨_, _, _, rfl, rfl⟩
  | 5, _ => exact ⟨_, _, _, rfl, rfl⟩
def sI (l : Nat) (ts b : List Int) (r k : Nat) (x4 x6 x24 : EV) : St := { env := [(0, .fn (yld + l) [] []), (1, .ptr 4 0), (2, .ptr 5 0), (4, x4), (5, .int .i64 k), (6, x6), (24, x24)], heap := hp ts b r, m := 6 }
def s15 (l : Nat) (ts b : List Int) (r k : Nat) (x22 : EV) : St := { env := [(0, .fn (yld + l) [] []), (1, .ptr 4 0), (2, .ptr 5 0), (4, .int .i64 k), (5, .int .i64 k), (6, .bool true), (24, .unk), (8, .int .i64 k), (9, .int .i64 r), (10, .int .i64 ((2 ^ r : Nat) : Int)), (11, .int .i64 0), (12, .bool true), (13, .bool true), (14, .fn (yld + l) [] []), (15, .int .i64 k), (16, .int .i64 k), (17, .int .i64 r), (18, .int .i64 ((tix r k : Nat) : Int)), (19, .ptr 5 0), (20, .ptr 5 (2 * tix r k)), (21, .ints .i64 [ts.getD (2 * tix r k) 0, ts.getD (2 * tix r k + 1) 0]), (22, x22), (23, .unk)], heap := hp ts b r, m := 6 }
theorem e0 (l : Nat) (ts b : List Int) (r : Nat) : runReg cB q40_0 { env := [(0, .fn (yld + l) [] []), (1, .ptr 4 0), (2, .ptr 5 0), (4, .unk), (5, .unk), (6, .unk), (24, .unk)], heap := hp ts b r, m := 6 } = some (sI l ts b r 0 .unk .unk .unk) := by kernel_rfl
theorem e1 (l : Nat) (ts b : List Int) (r k : Nat) : runReg cB q40_1 (sI l ts b r k .unk .unk .unk) = some (sI l ts b r k .unk (.bool (decide ((k : Int) < 16))) .unk) := by kernel_rfl
theorem e2 (l : Nat) (ts b : List Int) (r k : Nat) : runReg cB q40_2 (sI l ts b r k .unk (.bool true) .unk) = some (sI l ts b r k (.int .i64 k) (.bool true) .unk) := by kernel_rfl

theorem e3y_0_0 (l : Nat) (b : List Int) (t0 t1 t2 t3 t4 t5 t6 t7 t8 t9 t10 t11 t12 t13 t14 t15 : Int) : (runIx cB 6 q40_3.ops (List.range 14) { sI l [t0, t1, t2, t3, t4, t5, t6, t7, t8, t9, t10, t11, t12, t13, t14, t15] b 0 0 (.int .i64 0) (.bool true) .unk with env := (sI l [t0, t1, t2, t3, t4, t5, t6, t7, t8, t9, t10, t11, t12, t13, t14, t15] b 0 0 (.int .i64 0) (.bool true) .unk).env ++ q40_3.own.map fun t => (t, .unk) }).map (·.1) = some (s15 l [t0, t1, t2, t3, t4, t5, t6, t7, t8, t9, t10, t11, t12, t13, t14, t15] b 0 0 .unk) := by kernel_rfl
theorem e3n_0_1 (l : Nat) (ts b : List Int) : runReg cB q40_3 (sI l ts b 0 1 (.int .i64 1) (.bool true) .unk) = some (sI l ts b 0 1 (.int .i64 1) (.bool true) (.bool false)) := by kernel_rfl
theorem e3y_0_2 (l : Nat) (b : List Int) (t0 t1 t2 t3 t4 t5 t6 t7 t8 t9 t10 t11 t12 t13 t14 t15 : Int) : (runIx cB 6 q40_3.ops (List.range 14) { sI l [t0, t1, t2, t3, t4, t5, t6, t7, t8, t9, t10, t11, t12, t13, t14, t15] b 0 2 (.int .i64 2) (.bool true) .unk with env := (sI l [t0, t1, t2, t3, t4, t5, t6, t7, t8, t9, t10, t11, t12, t13, t14, t15] b 0 2 (.int .i64 2) (.bool true) .unk).env ++ q40_3.own.map fun t => (t, .unk) }).map (·.1) = some (s15 l [t0, t1, t2, t3, t4, t5, t6, t7, t8, t9, t10, t11, t12, t13, t14, t15] b 0 2 .unk) := by kernel_rfl
theorem e3n_0_3 (l : Nat) (ts b : List Int) : runReg cB q40_3 (sI l ts b 0 3 (.int .i64 3) (.bool true) .unk) = some (sI l ts b 0 3 (.int .i64 3) (.bool true) (.bool false)) := by kernel_rfl
theorem e3y_0_4 (l : Nat) (b : List Int) (t0 t1 t2 t3 t4 t5 t6 t7 t8 t9 t10 t11 t12 t13 t14 t15 : Int) : (runIx cB 6 q40_3.ops (List.range 14) { sI l [t0, t1, t2, t3, t4, t5, t6, t7, t8, t9, t10, t11, t12, t13, t14, t15] b 0 4 (.int .i64 4) (.bool true) .unk with env := (sI l [t0, t1, t2, t3, t4, t5, t6, t7, t8, t9, t10, t11, t12, t13, t14, t15] b 0 4 (.int .i64 4) (.bool true) .unk).env ++ q40_3.own.map fun t => (t, .unk) }).map (·.1) = some (s15 l [t0, t1, t2, t3, t4, t5, t6, t7, t8, t9, t10, t11, t12, t13, t14, t15] b 0 4 .unk) := by kernel_rfl
theorem e3n_0_5 (l : Nat) (ts b : List Int) : runReg cB q40_3 (sI l ts b 0 5 (.int .i64 5) (.bool true) .unk) = some (sI l ts b 0 5 (.int .i64 5) (.bool true) (.bool false)) := by kernel_rfl
theorem e3y_0_6 (l : Nat) (b : List Int) (t0 t1 t2 t3 t4 t5 t6 t7 t8 t9 t10 t11 t12 t13 t14 t15 : Int) : (runIx cB 6 q40_3.ops (List.range 14) { sI l [t0, t1, t2, t3, t4, t5, t6, t7, t8, t9, t10, t11, t12, t13, t14, t15] b 0 6 (.int .i64 6) (.bool true) .unk with env := (sI l [t0, t1, t2, t3, t4, t5, t6, t7, t8, t9, t10, t11, t12, t13, t14, t15] b 0 6 (.int .i64 6) (.bool true) .unk).env ++ q40_3.own.map fun t => (t, .unk) }).map (·.1) = some (s15 l [t0, t1, t2, t3, t4, t5, t6, t7, t8, t9, t10, t11, t12, t13, t14, t15] b 0 6 .unk) := by kernel_rfl
theorem e3n_0_7 (l : Nat) (ts b : List Int) : runReg cB q40_3 (sI l ts b 0 7 (.int .i64 7) (.bool true) .unk) = some (sI l ts b 0 7 (.int .i64 7) (.bool true) (.bool false)) := by kernel_rfl
theorem e3y_0_8 (l : Nat) (b : List Int) (t0 t1 t2 t3 t4 t5 t6 t7 t8 t9 t10 t11 t12 t13 t14 t15 : Int) : (runIx cB 6 q40_3.ops (List.range 14) { sI l [t0, t1, t2, t3, t4, t5, t6, t7, t8, t9, t10, t11, t12, t13, t14, t15] b 0 8 (.int .i64 8) (.bool true) .unk with env := (sI l [t0, t1, t2, t3, t4, t5, t6, t7, t8, t9, t10, t11, t12, t13, t14, t15] b 0 8 (.int .i64 8) (.bool true) .unk).env ++ q40_3.own.map fun t => (t, .unk) }).map (·.1) = some (s15 l [t0, t1, t2, t3, t4, t5, t6, t7, t8, t9, t10, t11, t12, t13, t14, t15] b 0 8 .unk) := by kernel_rfl
theorem e3n_0_9 (l : Nat) (ts b : List Int) : runReg cB q40_3 (sI l ts b 0 9 (.int .i64 9) (.bool true) .unk) = some (sI l ts b 0 9 (.int .i64 9) (.bool true) (.bool false)) := by kernel_rfl
theorem e3y_0_10 (l : Nat) (b : List Int) (t0 t1 t2 t3 t4 t5 t6 t7 t8 t9 t10 t11 t12 t13 t14 t15 : Int) : (runIx cB 6 q40_3.ops (List.range 14) { sI l [t0, t1, t2, t3, t4, t5, t6, t7, t8, t9, t10, t11, t12, t13, t14, t15] b 0 10 (.int .i64 10) (.bool true) .unk with env := (sI l [t0, t1, t2, t3, t4, t5, t6, t7, t8, t9, t10, t11, t12, t13, t14, t15] b 0 10 (.int .i64 10) (.bool true) .unk).env ++ q40_3.own.map fun t => (t, .unk) }).map (·.1) = some (s15 l [t0, t1, t2, t3, t4, t5, t6, t7, t8, t9, t10, t11, t12, t13, t14, t15] b 0 10 .unk) := by kernel_rfl
theorem e3n_0_11 (l : Nat) (ts b : List Int) : runReg cB q40_3 (sI l ts b 0 11 (.int .i64 11) (.bool true) .unk) = some (sI l ts b 0 11 (.int .i64 11) (.bool true) (.bool false)) := by kernel_rfl
theorem e3y_0_12 (l : Nat) (b : List Int) (t0 t1 t2 t3 t4 t5 t6 t7 t8 t9 t10 t11 t12 t13 t14 t15 : Int) : (runIx cB 6 q40_3.ops (List.range 14) { sI l [t0, t1, t2, t3, t4, t5, t6, t7, t8, t9, t10, t11, t12, t13, t14, t15] b 0 12 (.int .i64 12) (.bool true) .unk with env := (sI l [t0, t1, t2, t3, t4, t5, t6, t7, t8, t9, t10, t11, t12, t13, t14, t15] b 0 12 (.int .i64 12) (.bool true) .unk).env ++ q40_3.own.map fun t => (t, .unk) }).map (·.1) = some (s15 l [t0, t1, t2, t3, t4, t5, t6, t7, t8, t9, t10, t11, t12, t13, t14, t15] b 0 12 .unk) := by kernel_rfl
theorem e3n_0_13 (l : Nat) (ts b : List Int) : runReg cB q40_3 (sI l ts b 0 13 (.int .i64 13) (.bool true) .unk) = some (sI l ts b 0 13 (.int .i64 13) (.bool true) (.bool false)) := by kernel_rfl
theorem e3y_0_14 (l : Nat) (b : List Int) (t0 t1 t2 t3 t4 t5 t6 t7 t8 t9 t10 t11 t12 t13 t14 t15 : Int) : (runIx cB 6 q40_3.ops (List.range 14) { sI l [t0, t1, t2, t3, t4, t5, t6, t7, t8, t9, t10, t11, t12, t13, t14, t15] b 0 14 (.int .i64 14) (.bool true) .unk with env := (sI l [t0, t1, t2, t3, t4, t5, t6, t7, t8, t9, t10, t11, t12, t13, t14, t15] b 0 14 (.int .i64 14) (.bool true) .unk).env ++ q40_3.own.map fun t => (t, .unk) }).map (·.1) = some (s15 l [t0, t1, t2, t3, t4, t5, t6, t7, t8, t9, t10, t11, t12, t13, t14, t15] b 0 14 .unk) := by kernel_rfl
theorem e3n_0_15 (l : Nat) (ts b : List Int) : runReg cB q40_3 (sI l ts b 0 15 (.int .i64 15) (.bool true) .unk) = some (sI l ts b 0 15 (.int .i64 15) (.bool true) (.bool false)) := by kernel_rfl
theorem e3y_1_0 (l : Nat) (b : List Int) (t0 t1 t2 t3 t4 t5 t6 t7 t8 t9 t10 t11 t12 t13 t14 t15 : Int) : (runIx cB 6 q40_3.ops (List.range 14) { sI l [t0, t1, t2, t3, t4, t5, t6, t7, t8, t9, t10, t11, t12, t13, t14, t15] b 1 0 (.int .i64 0) (.bool true) .unk with env := (sI l [t0, t1, t2, t3, t4, t5, t6, t7, t8, t9, t10, t11, t12, t13, t14, t15] b 1 0 (.int .i64 0) (.bool true) .unk).env ++ q40_3.own.map fun t => (t, .unk) }).map (·.1) = some (s15 l [t0, t1, t2, t3, t4, t5, t6, t7, t8, t9, t10, t11, t12, t13, t14, t15] b 1 0 .unk) := by kernel_rfl
theorem e3y_1_1 (l : Nat) (b : List Int) (t0 t1 t2 t3 t4 t5 t6 t7 t8 t9 t10 t11 t12 t13 t14 t15 : Int) : (runIx cB 6 q40_3.ops (List.range 14) { sI l [t0, t1, t2, t3, t4, t5, t6, t7, t8, t9, t10, t11, t12, t13, t14, t15] b 1 1 (.int .i64 1) (.bool true) .unk with env := (sI l [t0, t1, t2, t3, t4, t5, t6, t7, t8, t9, t10, t11, t12, t13, t14, t15] b 1 1 (.int .i64 1) (.bool true) .unk).env ++ q40_3.own.map fun t => (t, .unk) }).map (·.1) = some (s15 l [t0, t1, t2, t3, t4, t5, t6, t7, t8, t9, t10, t11, t12, t13, t14, t15] b 1 1 .unk) := by kernel_rfl
theorem e3n_1_2 (l : Nat) (ts b : List Int) : runReg cB q40_3 (sI l ts b 1 2 (.int .i64 2) (.bool true) .unk) = some (sI l ts b 1 2 (.int .i64 2) (.bool true) (.bool false)) := by kernel_rfl
theorem e3n_1_3 (l : Nat) (ts b : List Int) : runReg cB q40_3 (sI l ts b 1 3 (.int .i64 3) (.bool true) .unk) = some (sI l ts b 1 3 (.int .i64 3) (.bool true) (.bool false)) := by kernel_rfl
theorem e3y_1_4 (l : Nat) (b : List Int) (t0 t1 t2 t3 t4 t5 t6 t7 t8 t9 t10 t11 t12 t13 t14 t15 : Int) : (runIx cB 6 q40_3.ops (List.range 14) { sI l [t0, t1, t2, t3, t4, t5, t6, t7, t8, t9, t10, t11, t12, t13, t14, t15] b 1 4 (.int .i64 4) (.bool true) .unk with env := (sI l [t0, t1, t2, t3, t4, t5, t6, t7, t8, t9, t10, t11, t12, t13, t14, t15] b 1 4 (.int .i64 4) (.bool true) .unk).env ++ q40_3.own.map fun t => (t, .unk) }).map (·.1) = some (s15 l [t0, t1, t2, t3, t4, t5, t6, t7, t8, t9, t10, t11, t12, t13, t14, t15] b 1 4 .unk) := by kernel_rfl
theorem e3y_1_5 (l : Nat) (b : List Int) (t0 t1 t2 t3 t4 t5 t6 t7 t8 t9 t10 t11 t12 t13 t14 t15 : Int) : (runIx cB 6 q40_3.ops (List.range 14) { sI l [t0, t1, t2, t3, t4, t5, t6, t7, t8, t9, t10, t11, t12, t13, t14, t15] b 1 5 (.int .i64 5) (.bool true) .unk with env := (sI l [t0, t1, t2, t3, t4, t5, t6, t7, t8, t9, t10, t11, t12, t13, t14, t15] b 1 5 (.int .i64 5) (.bool true) .unk).env ++ q40_3.own.map fun t => (t, .unk) }).map (·.1) = some (s15 l [t0, t1, t2, t3, t4, t5, t6, t7, t8, t9, t10, t11, t12, t13, t14, t15] b 1 5 .unk) := by kernel_rfl
theorem e3n_1_6 (l : Nat) (ts b : List Int) : runReg cB q40_3 (sI l ts b 1 6 (.int .i64 6) (.bool true) .unk) = some (sI l ts b 1 6 (.int .i64 6) (.bool true) (.bool false)) := by kernel_rfl
theorem e3n_1_7 (l : Nat) (ts b : List Int) : runReg cB q40_3 (sI l ts b 1 7 (.int .i64 7) (.bool true) .unk) = some (sI l ts b 1 7 (.int .i64 7) (.bool true) (.bool false)) := by kernel_rfl
theorem e3y_1_8 (l : Nat) (b : List Int) (t0 t1 t2 t3 t4 t5 t6 t7 t8 t9 t10 t11 t12 t13 t14 t15 : Int) : (runIx cB 6 q40_3.ops (List.range 14) { sI l [t0, t1, t2, t3, t4, t5, t6, t7, t8, t9, t10, t11, t12, t13, t14, t15] b 1 8 (.int .i64 8) (.bool true) .unk with env := (sI l [t0, t1, t2, t3, t4, t5, t6, t7, t8, t9, t10, t11, t12, t13, t14, t15] b 1 8 (.int .i64 8) (.bool true) .unk).env ++ q40_3.own.map fun t => (t, .unk) }).map (·.1) = some (s15 l [t0, t1, t2, t3, t4, t5, t6, t7, t8, t9, t10, t11, t12, t13, t14, t15] b 1 8 .unk) := by kernel_rfl
theorem e3y_1_9 (l : Nat) (b : List Int) (t0 t1 t2 t3 t4 t5 t6 t7 t8 t9 t10 t11 t12 t13 t14 t15 : Int) : (runIx cB 6 q40_3.ops (List.range 14) { sI l [t0, t1, t2, t3, t4, t5, t6, t7, t8, t9, t10, t11, t12, t13, t14, t15] b 1 9 (.int .i64 9) (.bool true) .unk with env := (sI l [t0, t1, t2, t3, t4, t5, t6, t7, t8, t9, t10, t11, t12, t13, t14, t15] b 1 9 (.int .i64 9) (.bool true) .unk).env ++ q40_3.own.map fun t => (t, .unk) }).map (·.1) = some (s15 l [t0, t1, t2, t3, t4, t5, t6, t7, t8, t9, t10, t11, t12, t13, t14, t15] b 1 9 .unk) := by kernel_rfl
theorem e3n_1_10 (l : Nat) (ts b : List Int) : runReg cB q40_3 (sI l ts b 1 10 (.int .i64 10) (.bool true) .unk) = some (sI l ts b 1 10 (.int .i64 10) (.bool true) (.bool false)) := by kernel_rfl
theorem e3n_1_11 (l : Nat) (ts b : List Int) : runReg cB q40_3 (sI l ts b 1 11 (.int .i64 11) (.bool true) .unk) = some (sI l ts b 1 11 (.int .i64 11) (.bool true) (.bool false)) := by kernel_rfl
theorem e3y_1_12 (l : Nat) (b : List Int) (t0 t1 t2 t3 t4 t5 t6 t7 t8 t9 t10 t11 t12 t13 t14 t15 : Int) : (runIx cB 6 q40_3.ops (List.range 14) { sI l [t0, t1, t2, t3, t4, t5, t6, t7, t8, t9, t10, t11, t12, t13, t14, t15] b 1 12 (.int .i64 12) (.bool true) .unk with env := (sI l [t0, t1, t2, t3, t4, t5, t6, t7, t8, t9, t10, t11, t12, t13, t14, t15] b 1 12 (.int .i64 12) (.bool true) .unk).env ++ q40_3.own.map fun t => (t, .unk) }).map (·.1) = some (s15 l [t0, t1, t2, t3, t4, t5, t6, t7, t8, t9, t10, t11, t12, t13, t14, t15] b 1 12 .unk) := by kernel_rfl
theorem e3y_1_13 (l : Nat) (b : List Int) (t0 t1 t2 t3 t4 t5 t6 t7 t8 t9 t10 t11 t12 t13 t14 t15 : Int) : (runIx cB 6 q40_3.ops (List.range 14) { sI l [t0, t1, t2, t3, t4, t5, t6, t7, t8, t9, t10, t11, t12, t13, t14, t15] b 1 13 (.int .i64 13) (.bool true) .unk with env := (sI l [t0, t1, t2, t3, t4, t5, t6, t7, t8, t9, t10, t11, t12, t13, t14, t15] b 1 13 (.int .i64 13) (.bool true) .unk).env ++ q40_3.own.map fun t => (t, .unk) }).map (·.1) = some (s15 l [t0, t1, t2, t3, t4, t5, t6, t7, t8, t9, t10, t11, t12, t13, t14, t15] b 1 13 .unk) := by kernel_rfl
theorem e3n_1_14 (l : Nat) (ts b : List Int) : runReg cB q40_3 (sI l ts b 1 14 (.int .i64 14) (.bool true) .unk) = some (sI l ts b 1 14 (.int .i64 14) (.bool true) (.bool false)) := by kernel_rfl
theorem e3n_1_15 (l : Nat) (ts b : List Int) : runReg cB q40_3 (sI l ts b 1 15 (.int .i64 15) (.bool true) .unk) = some (sI l ts b 1 15 (.int .i64 15) (.bool true) (.bool false)) := by kernel_rfl
theorem e3y_2_0 (l : Nat) (b : List Int) (t0 t1 t2 t3 t4 t5 t6 t7 t8 t9 t10 t11 t12 t13 t14 t15 : Int) : (runIx cB 6 q40_3.ops (List.range 14) { sI l [t0, t1, t2, t3, t4, t5, t6, t7, t8, t9, t10, t11, t12, t13, t14, t15] b 2 0 (.int .i64 0) (.bool true) .unk with env := (sI l [t0, t1, t2, t3, t4, t5, t6, t7, t8, t9, t10, t11, t12, t13, t14, t15] b 2 0 (.int .i64 0) (.bool true) .unk).env ++ q40_3.own.map fun t => (t, .unk) }).map (·.1) = some (s15 l [t0, t1, t2, t3, t4, t5, t6, t7, t8, t9, t10, t11, t12, t13, t14, t15] b 2 0 .unk) := by kernel_rfl
theorem e3y_2_1 (l : Nat) (b : List Int) (t0 t1 t2 t3 t4 t5 t6 t7 t8 t9 t10 t11 t12 t13 t14 t15 : Int) : (runIx cB 6 q40_3.ops (List.range 14) { sI l [t0, t1, t2, t3, t4, t5, t6, t7, t8, t9, t10, t11, t12, t13, t14, t15] b 2 1 (.int .i64 1) (.bool true) .unk with env := (sI l [t0, t1, t2, t3, t4, t5, t6, t7, t8, t9, t10, t11, t12, t13, t14, t15] b 2 1 (.int .i64 1) (.bool true) .unk).env ++ q40_3.own.map fun t => (t, .unk) }).map (·.1) = some (s15 l [t0, t1, t2, t3, t4, t5, t6, t7, t8, t9, t10, t11, t12, t13, t14, t15] b 2 1 .unk) := by kernel_rfl
theorem e3y_2_2 (l : Nat) (b : List Int) (t0 t1 t2 t3 t4 t5 t6 t7 t8 t9 t10 t11 t12 t13 t14 t15 : Int) : (runIx cB 6 q40_3.ops (List.range 14) { sI l [t0, t1, t2, t3, t4, t5, t6, t7, t8, t9, t10, t11, t12, t13, t14, t15] b 2 2 (.int .i64 2) (.bool true) .unk with env := (sI l [t0, t1, t2, t3, t4, t5, t6, t7, t8, t9, t10, t11, t12, t13, t14, t15] b 2 2 (.int .i64 2) (.bool true) .unk).env ++ q40_3.own.map fun t => (t, .unk) }).map (·.1) = some (s15 l [t0, t1, t2, t3, t4, t5, t6, t7, t8, t9, t10, t11, t12, t13, t14, t15] b 2 2 .unk) := by kernel_rfl
theorem e3y_2_3 (l : Nat) (b : List Int) (t0 t1 t2 t3 t4 t5 t6 t7 t8 t9 t10 t11 t12 t13 t14 t15 : Int) : (runIx cB 6 q40_3.ops (List.range 14) { sI l [t0, t1, t2, t3, t4, t5, t6, t7, t8, t9, t10, t11, t12, t13, t14, t15] b 2 3 (.int .i64 3) (.bool true) .unk with env := (sI l [t0, t1, t2, t3, t4, t5, t6, t7, t8, t9, t10, t11, t12, t13, t14, t15] b 2 3 (.int .i64 3) (.bool true) .unk).env ++ q40_3.own.map fun t => (t, .unk) }).map (·.1) = some (s15 l [t0, t1, t2, t3, t4, t5, t6, t7, t8, t9, t10, t11, t12, t13, t14, t15] b 2 3 .unk) := by kernel_rfl
theorem e3n_2_4 (l : Nat) (ts b : List Int) : runReg cB q40_3 (sI l ts b 2 4 (.int .i64 4) (.bool true) .unk) = some (sI l ts b 2 4 (.int .i64 4) (.bool true) (.bool false)) := by kernel_rfl
theorem e3n_2_5 (l : Nat) (ts b : List Int) : runReg cB q40_3 (sI l ts b 2 5 (.int .i64 5) (.bool true) .unk) = some (sI l ts b 2 5 (.int .i64 5) (.bool true) (.bool false)) := by kernel_rfl
theorem e3n_2_6 (l : Nat) (ts b : List Int) : runReg cB q40_3 (sI l ts b 2 6 (.int .i64 6) (.bool true) .unk) = some (sI l ts b 2 6 (.int .i64 6) (.bool true) (.bool false)) := by kernel_rfl
theorem e3n_2_7 (l : Nat) (ts b : List Int) : runReg cB q40_3 (sI l ts b 2 7 (.int .i64 7) (.bool true) .unk) = some (sI l ts b 2 7 (.int .i64 7) (.bool true) (.bool false)) := by kernel_rfl
theorem e3y_2_8 (l : Nat) (b : List Int) (t0 t1 t2 t3 t4 t5 t6 t7 t8 t9 t10 t11 t12 t13 t14 t15 : Int) : (runIx cB 6 q40_3.ops (List.range 14) { sI l [t0, t1, t2, t3, t4, t5, t6, t7, t8, t9, t10, t11, t12, t13, t14, t15] b 2 8 (.int .i64 8) (.bool true) .unk with env := (sI l [t0, t1, t2, t3, t4, t5, t6, t7, t8, t9, t10, t11, t12, t13, t14, t15] b 2 8 (.int .i64 8) (.bool true) .unk).env ++ q40_3.own.map fun t => (t, .unk) }).map (·.1) = some (s15 l [t0, t1, t2, t3, t4, t5, t6, t7, t8, t9, t10, t11, t12, t13, t14, t15] b 2 8 .unk) := by kernel_rfl
theorem e3y_2_9 (l : Nat) (b : List Int) (t0 t1 t2 t3 t4 t5 t6 t7 t8 t9 t10 t11 t12 t13 t14 t15 : Int) : (runIx cB 6 q40_3.ops (List.range 14) { sI l [t0, t1, t2, t3, t4, t5, t6, t7, t8, t9, t10, t11, t12, t13, t14, t15] b 2 9 (.int .i64 9) (.bool true) .unk with env := (sI l [t0, t1, t2, t3, t4, t5, t6, t7, t8, t9, t10, t11, t12, t13, t14, t15] b 2 9 (.int .i64 9) (.bool true) .unk).env ++ q40_3.own.map fun t => (t, .unk) }).map (·.1) = some (s15 l [t0, t1, t2, t3, t4, t5, t6, t7, t8, t9, t10, t11, t12, t13, t14, t15] b 2 9 .unk) := by kernel_rfl
theorem e3y_2_10 (l : Nat) (b : List Int) (t0 t1 t2 t3 t4 t5 t6 t7 t8 t9 t10 t11 t12 t13 t14 t15 : Int) : (runIx cB 6 q40_3.ops (List.range 14) { sI l [t0, t1, t2, t3, t4, t5, t6, t7, t8, t9, t10, t11, t12, t13, t14, t15] b 2 10 (.int .i64 10) (.bool true) .unk with env := (sI l [t0, t1, t2, t3, t4, t5, t6, t7, t8, t9, t10, t11, t12, t13, t14, t15] b 2 10 (.int .i64 10) (.bool true) .unk).env ++ q40_3.own.map fun t => (t, .unk) }).map (·.1) = some (s15 l [t0, t1, t2, t3, t4, t5, t6, t7, t8, t9, t10, t11, t12, t13, t14, t15] b 2 10 .unk) := by kernel_rfl
theorem e3y_2_11 (l : Nat) (b : List Int) (t0 t1 t2 t3 t4 t5 t6 t7 t8 t9 t10 t11 t12 t13 t14 t15 : Int) : (runIx cB 6 q40_3.ops (List.range 14) { sI l [t0, t1, t2, t3, t4, t5, t6, t7, t8, t9, t10, t11, t12, t13, t14, t15] b 2 11 (.int .i64 11) (.bool true) .unk with env := (sI l [t0, t1, t2, t3, t4, t5, t6, t7, t8, t9, t10, t11, t12, t13, t14, t15] b 2 11 (.int .i64 11) (.bool true) .unk).env ++ q40_3.own.map fun t => (t, .unk) }).map (·.1) = some (s15 l [t0, t1, t2, t3, t4, t5, t6, t7, t8, t9, t10, t11, t12, t13, t14, t15] b 2 11 .unk) := by kernel_rfl
theorem e3n_2_12 (l : Nat) (ts b : List Int) : runReg cB q40_3 (sI l ts b 2 12 (.int .i64 12) (.bool true) .unk) = some (sI l ts b 2 12 (.int .i64 12) (.bool true) (.bool false)) := by kernel_rfl
theorem e3n_2_13 (l : Nat) (ts b : List Int) : runReg cB q40_3 (sI l ts b 2 13 (.int .i64 13) (.bool true) .unk) = some (sI l ts b 2 13 (.int .i64 13) (.bool true) (.bool false)) := by kernel_rfl
theorem e3n_2_14 (l : Nat) (ts b : List Int) : runReg cB q40_3 (sI l ts b 2 14 (.int .i64 14) (.bool true) .unk) = some (sI l ts b 2 14 (.int .i64 14) (.bool true) (.bool false)) := by kernel_rfl
theorem e3n_2_15 (l : Nat) (ts b : List Int) : runReg cB q40_3 (sI l ts b 2 15 (.int .i64 15) (.bool true) .unk) = some (sI l ts b 2 15 (.int .i64 15) (.bool true) (.bool false)) := by kernel_rfl
theorem e3y_3_0 (l : Nat) (b : List Int) (t0 t1 t2 t3 t4 t5 t6 t7 t8 t9 t10 t11 t12 t13 t14 t15 : Int) : (runIx cB 6 q40_3.ops (List.range 14) { sI l [t0, t1, t2, t3, t4, t5, t6, t7, t8, t9, t10, t11, t12, t13, t14, t15] b 3 0 (.int .i64 0) (.bool true) .unk with env := (sI l [t0, t1, t2, t3, t4, t5, t6, t7, t8, t9, t10, t11, t12, t13, t14, t15] b 3 0 (.int .i64 0) (.bool true) .unk).env ++ q40_3.own.map fun t => (t, .unk) }).map (·.1) = some (s15 l [t0, t1, t2, t3, t4, t5, t6, t7, t8, t9, t10, t11, t12, t13, t14, t15] b 3 0 .unk) := by kernel_rfl
theorem e3y_3_1 (l : Nat) (b : List Int) (t0 t1 t2 t3 t4 t5 t6 t7 t8 t9 t10 t11 t12 t13 t14 t15 : Int) : (runIx cB 6 q40_3.ops (List.range 14) { sI l [t0, t1, t2, t3, t4, t5, t6, t7, t8, t9, t10, t11, t12, t13, t14, t15] b 3 1 (.int .i64 1) (.bool true) .unk with env := (sI l [t0, t1, t2, t3, t4, t5, t6, t7, t8, t9, t10, t11, t12, t13, t14, t15] b 3 1 (.int .i64 1) (.bool true) .unk).env ++ q40_3.own.map fun t => (t, .unk) }).map (·.1) = some (s15 l [t0, t1, t2, t3, t4, t5, t6, t7, t8, t9, t10, t11, t12, t13, t14, t15] b 3 1 .unk) := by kernel_rfl
theorem e3y_3_2 (l : Nat) (b : List Int) (t0 t1 t2 t3 t4 t5 t6 t7 t8 t9 t10 t11 t12 t13 t14 t15 : Int) : (runIx cB 6 q40_3.ops (List.range 14) { sI l [t0, t1, t2, t3, t4, t5, t6, t7, t8, t9, t10, t11, t12, t13, t14, t15] b 3 2 (.int .i64 2) (.bool true) .unk with env := (sI l [t0, t1, t2, t3, t4, t5, t6, t7, t8, t9, t10, t11, t12, t13, t14, t15] b 3 2 (.int .i64 2) (.bool true) .unk).env ++ q40_3.own.map fun t => (t, .unk) }).map (·.1) = some (s15 l [t0, t1, t2, t3, t4, t5, t6, t7, t8, t9, t10, t11, t12, t13, t14, t15] b 3 2 .unk) := by kernel_rfl
theorem e3y_3_3 (l : Nat) (b : List Int) (t0 t1 t2 t3 t4 t5 t6 t7 t8 t9 t10 t11 t12 t13 t14 t15 : Int) : (runIx cB 6 q40_3.ops (List.range 14) { sI l [t0, t1, t2, t3, t4, t5, t6, t7, t8, t9, t10, t11, t12, t13, t14, t15] b 3 3 (.int .i64 3) (.bool true) .unk with env := (sI l [t0, t1, t2, t3, t4, t5, t6, t7, t8, t9, t10, t11, t12, t13, t14, t15] b 3 3 (.int .i64 3) (.bool true) .unk).env ++ q40_3.own.map fun t => (t, .unk) }).map (·.1) = some (s15 l [t0, t1, t2, t3, t4, t5, t6, t7, t8, t9, t10, t11, t12, t13, t14, t15] b 3 3 .unk) := by kernel_rfl
theorem e3y_3_4 (l : Nat) (b : List Int) (t0 t1 t2 t3 t4 t5 t6 t7 t8 t9 t10 t11 t12 t13 t14 t15 : Int) : (runIx cB 6 q40_3.ops (List.range 14) { sI l [t0, t1, t2, t3, t4, t5, t6, t7, t8, t9, t10, t11, t12, t13, t14, t15] b 3 4 (.int .i64 4) (.bool true) .unk with env := (sI l [t0, t1, t2, t3, t4, t5, t6, t7, t8, t9, t10, t11, t12, t13, t14, t15] b 3 4 (.int .i64 4) (.bool true) .unk).env ++ q40_3.own.map fun t => (t, .unk) }).map (·.1) = some (s15 l [t0, t1, t2, t3, t4, t5, t6, t7, t8, t9, t10, t11, t12, t13, t14, t15] b 3 4 .unk) := by kernel_rfl
theorem e3y_3_5 (l : Nat) (b : List Int) (t0 t1 t2 t3 t4 t5 t6 t7 t8 t9 t10 t11 t12 t13 t14 t15 : Int) : (runIx cB 6 q40_3.ops (List.range 14) { sI l [t0, t1, t2, t3, t4, t5, t6, t7, t8, t9, t10, t11, t12, t13, t14, t15] b 3 5 (.int .i64 5) (.bool true) .unk with env := (sI l [t0, t1, t2, t3, t4, t5, t6, t7, t8, t9, t10, t11, t12, t13, t14, t15] b 3 5 (.int .i64 5) (.bool true) .unk).env ++ q40_3.own.map fun t => (t, .unk) }).map (·.1) = some (s15 l [t0, t1, t2, t3, t4, t5, t6, t7, t8, t9, t10, t11, t12, t13, t14, t15] b 3 5 .unk) := by kernel_rfl
theorem e3y_3_6 (l : Nat) (b : List Int) (t0 t1 t2 t3 t4 t5 t6 t7 t8 t9 t10 t11 t12 t13 t14 t15 : Int) : (runIx cB 6 q40_3.ops (List.range 14) { sI l [t0, t1, t2, t3, t4, t5, t6, t7, t8, t9, t10, t11, t12, t13, t14, t15] b 3 6 (.int .i64 6) (.bool true) .unk with env := (sI l [t0, t1, t2, t3, t4, t5, t6, t7, t8, t9, t10, t11, t12, t13, t14, t15] b 3 6 (.int .i64 6) (.bool true) .unk).env ++ q40_3.own.map fun t => (t, .unk) }).map (·.1) = some (s15 l [t0, t1, t2, t3, t4, t5, t6, t7, t8, t9, t10, t11, t12, t13, t14, t15] b 3 6 .unk) := by kernel_rfl
theorem e3y_3_7 (l : Nat) (b : List Int) (t0 t1 t2 t3 t4 t5 t6 t7 t8 t9 t10 t11 t12 t13 t14 t15 : Int) : (runIx cB 6 q40_3.ops (List.range 14) { sI l [t0, t1, t2, t3, t4, t5, t6, t7, t8, t9, t10, t11, t12, t13, t14, t15] b 3 7 (.int .i64 7) (.bool true) .unk with env := (sI l [t0, t1, t2, t3, t4, t5, t6, t7, t8, t9, t10, t11, t12, t13, t14, t15] b 3 7 (.int .i64 7) (.bool true) .unk).env ++ q40_3.own.map fun t => (t, .unk) }).map (·.1) = some (s15 l [t0, t1, t2, t3, t4, t5, t6, t7, t8, t9, t10, t11, t12, t13, t14, t15] b 3 7 .unk) := by kernel_rfl
theorem e3n_3_8 (l : Nat) (ts b : List Int) : runReg cB q40_3 (sI l ts b 3 8 (.int .i64 8) (.bool true) .unk) = some (sI l ts b 3 8 (.int .i64 8) (.bool true) (.bool false)) := by kernel_rfl
theorem e3n_3_9 (l : Nat) (ts b : List Int) : runReg cB q40_3 (sI l ts b 3 9 (.int .i64 9) (.bool true) .unk) = some (sI l ts b 3 9 (.int .i64 9) (.bool true) (.bool false)) := by kernel_rfl
theorem e3n_3_10 (l : Nat) (ts b : List Int) : runReg cB q40_3 (sI l ts b 3 10 (.int .i64 10) (.bool true) .unk) = some (sI l ts b 3 10 (.int .i64 10) (.bool true) (.bool false)) := by kernel_rfl
theorem e3n_3_11 (l : Nat) (ts b : List Int) : runReg cB q40_3 (sI l ts b 3 11 (.int .i64 11) (.bool true) .unk) = some (sI l ts b 3 11 (.int .i64 11) (.bool true) (.bool false)) := by kernel_rfl
theorem e3n_3_12 (l : Nat) (ts b : List Int) : runReg cB q40_3 (sI l ts b 3 12 (.int .i64 12) (.bool true) .unk) = some (sI l ts b 3 12 (.int .i64 12) (.bool true) (.bool false)) := by kernel_rfl
theorem e3n_3_13 (l : Nat) (ts b : List Int) : runReg cB q40_3 (sI l ts b 3 13 (.int .i64 13) (.bool true) .unk) = some (sI l ts b 3 13 (.int .i64 13) (.bool true) (.bool false)) := by kernel_rfl
theorem e3n_3_14 (l : Nat) (ts b : List Int) : runReg cB q40_3 (sI l ts b 3 14 (.int .i64 14) (.bool true) .unk) = some (sI l ts b 3 14 (.int .i64 14) (.bool true) (.bool false)) := by kernel_rfl
theorem e3n_3_15 (l : Nat) (ts b : List Int) : runReg cB q40_3 (sI l ts b 3 15 (.int .i64 15) (.bool true) .unk) = some (sI l ts b 3 15 (.int .i64 15) (.bool true) (.bool false)) := by kernel_rfl
theorem e4_0 (l : Nat) (ts b : List Int) (r : Nat) : (runReg cB q40_4 (sI l ts b r 0 (.int .i64 0) (.bool true) (.bool false))).map (fun st => { st with env := killE [4, 6, 24] st.env }) = some (sI l ts b r 1 .unk .unk .unk) := by kernel_rfl
theorem e4_1 (l : Nat) (ts b : List Int) (r : Nat) : (runReg cB q40_4 (sI l ts b r 1 (.int .i64 1) (.bool true) (.bool false))).map (fun st => { st with env := killE [4, 6, 24] st.env }) = some (sI l ts b r 2 .unk .unk .unk) := by kernel_rfl
theorem e4_2 (l : Nat) (ts b : List Int) (r : Nat) : (runReg cB q40_4 (sI l ts b r 2 (.int .i64 2) (.bool true) (.bool false))).map (fun st => { st with env := killE [4, 6, 24] st.env }) = some (sI l ts b r 3 .unk .unk .unk) := by kernel_rfl
theorem e4_3 (l : Nat) (ts b : List Int) (r : Nat) : (runReg cB q40_4 (sI l ts b r 3 (.int .i64 3) (.bool true) (.bool false))).map (fun st => { st with env := killE [4, 6, 24] st.env }) = some (sI l ts b r 4 .unk .unk .unk) := by kernel_rfl
theorem e4_4 (l : Nat) (ts b : List Int) (r : Nat) : (runReg cB q40_4 (sI l ts b r 4 (.int .i64 4) (.bool true) (.bool false))).map (fun st => { st with env := killE [4, 6, 24] st.env }) = some (sI l ts b r 5 .unk .unk .unk) := by kernel_rfl
theorem e4_5 (l : Nat) (ts b : List Int) (r : Nat) : (runReg cB q40_4 (sI l ts b r 5 (.int .i64 5) (.bool true) (.bool false))).map (fun st => { st with env := killE [4, 6, 24] st.env }) = some (sI l ts b r 6 .unk .unk .unk) := by kernel_rfl
theorem e4_6 (l : Nat) (ts b : List Int) (r : Nat) : (runReg cB q40_4 (sI l ts b r 6 (.int .i64 6) (.bool true) (.bool false))).map (fun st => { st with env := killE [4, 6, 24] st.env }) = some (sI l ts b r 7 .unk .unk .unk) := by kernel_rfl
theorem e4_7 (l : Nat) (ts b : List Int) (r : Nat) : (runReg cB q40_4 (sI l ts b r 7 (.int .i64 7) (.bool true) (.bool false))).map (fun st => { st with env := killE [4, 6, 24] st.env }) = some (sI l ts b r 8 .unk .unk .unk) := by kernel_rfl
theorem e4_8 (l : Nat) (ts b : List Int) (r : Nat) : (runReg cB q40_4 (sI l ts b r 8 (.int .i64 8) (.bool true) (.bool false))).map (fun st => { st with env := killE [4, 6, 24] st.env }) = some (sI l ts b r 9 .unk .unk .unk) := by kernel_rfl
theorem e4_9 (l : Nat) (ts b : List Int) (r : Nat) : (runReg cB q40_4 (sI l ts b r 9 (.int .i64 9) (.bool true) (.bool false))).map (fun st => { st with env := killE [4, 6, 24] st.env }) = some (sI l ts b r 10 .unk .unk .unk) := by kernel_rfl
theorem e4_10 (l : Nat) (ts b : List Int) (r : Nat) : (runReg cB q40_4 (sI l ts b r 10 (.int .i64 10) (.bool true) (.bool false))).map (fun st => { st with env := killE [4, 6, 24] st.env }) = some (sI l ts b r 11 .unk .unk .unk) := by kernel_rfl
theorem e4_11 (l : Nat) (ts b : List Int) (r : Nat) : (runReg cB q40_4 (sI l ts b r 11 (.int .i64 11) (.bool true) (.bool false))).map (fun st => { st with env := killE [4, 6, 24] st.env }) = some (sI l ts b r 12 .unk .unk .unk) := by kernel_rfl
theorem e4_12 (l : Nat) (ts b : List Int) (r : Nat) : (runReg cB q40_4 (sI l ts b r 12 (.int .i64 12) (.bool true) (.bool false))).map (fun st => { st with env := killE [4, 6, 24] st.env }) = some (sI l ts b r 13 .unk .unk .unk) := by kernel_rfl
theorem e4_13 (l : Nat) (ts b : List Int) (r : Nat) : (runReg cB q40_4 (sI l ts b r 13 (.int .i64 13) (.bool true) (.bool false))).map (fun st => { st with env := killE [4, 6, 24] st.env }) = some (sI l ts b r 14 .unk .unk .unk) := by kernel_rfl
theorem e4_14 (l : Nat) (ts b : List Int) (r : Nat) : (runReg cB q40_4 (sI l ts b r 14 (.int .i64 14) (.bool true) (.bool false))).map (fun st => { st with env := killE [4, 6, 24] st.env }) = some (sI l ts b r 15 .unk .unk .unk) := by kernel_rfl
theorem e4_15 (l : Nat) (ts b : List Int) (r : Nat) : (runReg cB q40_4 (sI l ts b r 15 (.int .i64 15) (.bool true) (.bool false))).map (fun st => { st with env := killE [4, 6, 24] st.env }) = some (sI l ts b r 16 .unk .unk .unk) := by kernel_rfl
theorem e3y (l : Nat) (ts b : List Int) (hts : ts.length = 16) (r k : Nat) (hr : r < 4) (hk : k < 16) (h : isP r k = true) : (runIx cB 6 q40_3.ops (List.range 14) { sI l ts b r k (.int .i64 k) (.bool true) .unk with env := (sI l ts b r k (.int .i64 k) (.bool true) .unk).env ++ q40_3.own.map fun t => (t, .unk) }).map (·.1) = some (s15 l ts b r k .unk) := by
  obtain ⟨t0, t1, t2, t3, t4, t5, t6, t7, t8, t9, t10, t11, t12, t13, t14, t15, rfl⟩ := len16 hts
  match r, k, hr, hk, h with
  | 0, 0, _, _, _ => exact e3y_0_0 l b t0 t1 t2 t3 t4 t5 t6 t7 t8 t9 t10 t11 t12 t13 t14 t15
  | 0, 1, _, _, h => exact absurd h (by decide)
  | 0, 2, _, _, _ => exact e3y_0_2 l b t0 t1 t2 t3 t4 t5 t6 t7 t8 t9 t10 t11 t12 t13 t14 t15
  | 0, 3, _, _, h => exact absurd h (by decide)
  | 0, 4, _, _, _ => exact e3y_0_4 l b t0 t1 t2 t3 t4 t5 t6 t7 t8 t9 t10 t11 t12 t13 t14 t15
  | 0, 5, _, _, h => exact absurd h (by decide)
  | 0, 6, _, _, _ => exact e3y_0_6 l b t0 t1 t2 t3 t4 t5 t6 t7 t8 t9 t10 t11 t12 t13 t14 t15
  | 0, 7, _, _, h => exact absurd h (by decide)
  | 0, 8, _, _, _ => exact e3y_0_8 l b t0 t1 t2 t3 t4 t5 t6 t7 t8 t9 t10 t11 t12 t13 t14 t15
  | 0, 9, _, _, h => exact absurd h (by decide)
  | 0, 10, _, _, _ => exact e3y_0_10 l b t0 t1 t2 t3 t4 t5 t6 t7 t8 t9 t10 t11 t12 t13 t14 t15
  | 0, 11, _, _, h => exact absurd h (by decide)
  | 0, 12, _, _, _ => exact e3y_0_12 l b t0 t1 t2 t3 t4 t5 t6 t7 t8 t9 t10 t11 t12 t13 t14 t15
  | 0, 13, _, _, h => exact absurd h (by decide)
  | 0, 14, _, _, _ => exact e3y_0_14 l b t0 t1 t2 t3 t4 t5 t6 t7 t8 t9 t10 t11 t12 t13 t14 t15
  | 0, 15, _, _, h => exact absurd h (by decide)
  | 1, 0, _, _, _ => exact e3y_1_0 l b t0 t1 t2 t3 t4 t5 t6 t7 t8 t9 t10 t11 t12 t13 t14 t15
  | 1, 1, _, _, _ => exact e3y_1_1 l b t0 t1 t2 t3 t4 t5 t6 t7 t8 t9 t10 t11 t12 t13 t14 t15
  | 1, 2, _, _, h => exact absurd h (by decide)
  | 1, 3, _, _, h => exact absurd h (by decide)
  | 1, 4, _, _, _ => exact e3y_1_4 l b t0 t1 t2 t3 t4 t5 t6 t7 t8 t9 t10 t11 t12 t13 t14 t15
  | 1, 5, _, _, _ => exact e3y_1_5 l b t0 t1 t2 t3 t4 t5 t6 t7 t8 t9 t10 t11 t12 t13 t14 t15
  | 1, 6, _, _, h => exact absurd h (by decide)
  | 1, 7, _, _, h => exact absurd h (by decide)
  | 1, 8, _, _, _ => exact e3y_1_8 l b t0 t1 t2 t3 t4 t5 t6 t7 t8 t9 t10 t11 t12 t13 t14 t15
  | 1, 9, _, _, _ => exact e3y_1_9 l b t0 t1 t2 t3 t4 t5 t6 t7 t8 t9 t10 t11 t12 t13 t14 t15
  | 1, 10, _, _, h => exact absurd h (by decide)
  | 1, 11, _, _, h => exact absurd h (by decide)
  | 1, 12, _, _, _ => exact e3y_1_12 l b t0 t1 t2 t3 t4 t5 t6 t7 t8 t9 t10 t11 t12 t13 t14 t15
  | 1, 13, _, _, _ => exact e3y_1_13 l b t0 t1 t2 t3 t4 t5 t6 t7 t8 t9 t10 t11 t12 t13 t14 t15
  | 1, 14, _, _, h => exact absurd h (by decide)
  | 1, 15, _, _, h => exact absurd h (by decide)
  | 2, 0, _, _, _ => exact e3y_2_0 l b t0 t1 t2 t3 t4 t5 t6 t7 t8 t9 t10 t11 t12 t13 t14 t15
  | 2, 1, _, _, _ => exact e3y_2_1 l b t0 t1 t2 t3 t4 t5 t6 t7 t8 t9 t10 t11 t12 t13 t14 t15
  | 2, 2, _, _, _ => exact e3y_2_2 l b t0 t1 t2 t3 t4 t5 t6 t7 t8 t9 t10 t11 t12 t13 t14 t15
  | 2, 3, _, _, _ => exact e3y_2_3 l b t0 t1 t2 t3 t4 t5 t6 t7 t8 t9 t10 t11 t12 t13 t14 t15
  | 2, 4, _, _, h => exact absurd h (by decide)
  | 2, 5, _, _, h => exact absurd h (by decide)
  | 2, 6, _, _, h => exact absurd h (by decide)
  | 2, 7, _, _, h => exact absurd h (by decide)
  | 2, 8, _, _, _ => exact e3y_2_8 l b t0 t1 t2 t3 t4 t5 t6 t7 t8 t9 t10 t11 t12 t13 t14 t15
  | 2, 9, _, _, _ => exact e3y_2_9 l b t0 t1 t2 t3 t4 t5 t6 t7 t8 t9 t10 t11 t12 t13 t14 t15
  | 2, 10, _, _, _ => exact e3y_2_10 l b t0 t1 t2 t3 t4 t5 t6 t7 t8 t9 t10 t11 t12 t13 t14 t15
  | 2, 11, _, _, _ => exact e3y_2_11 l b t0 t1 t2 t3 t4 t5 t6 t7 t8 t9 t10 t11 t12 t13 t14 t15
  | 2, 12, _, _, h => exact absurd h (by decide)
  | 2, 13, _, _, h => exact absurd h (by decide)
  | 2, 14, _, _, h => exact absurd h (by decide)
  | 2, 15, _, _, h => exact absurd h (by decide)
  | 3, 0, _, _, _ => exact e3y_3_0 l b t0 t1 t2 t3 t4 t5 t6 t7 t8 t9 t10 t11 t12 t13 t14 t15
  | 3, 1, _, _, _ => exact e3y_3_1 l b t0 t1 t2 t3 t4 t5 t6 t7 t8 t9 t10 t11 t12 t13 t14 t15
  | 3, 2, _, _, _ => exact e3y_3_2 l b t0 t1 t2 t3 t4 t5 t6 t7 t8 t9 t10 t11 t12 t13 t14 t15
  | 3, 3, _, _, _ => exact e3y_3_3 l b t0 t1 t2 t3 t4 t5 t6 t7 t8 t9 t10 t11 t12 t13 t14 t15
  | 3, 4, _, _, _ => exact e3y_3_4 l b t0 t1 t2 t3 t4 t5 t6 t7 t8 t9 t10 t11 t12 t13 t14 t15
  | 3, 5, _, _, _ => exact e3y_3_5 l b t0 t1 t2 t3 t4 t5 t6 t7 t8 t9 t10 t11 t12 t13 t14 t15
  | 3, 6, _, _, _ => exact e3y_3_6 l b t0 t1 t2 t3 t4 t5 t6 t7 t8 t9 t10 t11 t12 t13 t14 t15
  | 3, 7, _, _, _ => exact e3y_3_7 l b t0 t1 t2 t3 t4 t5 t6 t7 t8 t9 t10 t11 t12 t13 t14 t15
  | 3, 8, _, _, h => exact absurd h (by decide)
  | 3, 9, _, _, h => exact absurd h (by decide)
  | 3, 10, _, _, h => exact absurd h (by decide)
  | 3, 11, _, _, h => exact absurd h (by decide)
  | 3, 12, _, _, h => exact absurd h (by decide)
  | 3, 13, _, _, h => exact absurd h (by decide)
  | 3, 14, _, _, h => exact absurd h (by decide)
  | 3, 15, _, _, h => exact absurd h (by decide)
  | r, k + 16, _, h, _ => exact absurd h (by omega)
  | r + 4, k, h, _, _ => exact absurd h (by omega)
theorem e3n (l : Nat) (ts b : List Int) (r k : Nat) (hr : r < 4) (hk : k < 16) (h : isP r k = false) : runReg cB q40_3 (sI l ts b r k (.int .i64 k) (.bool true) .unk) = some (sI l ts b r k (.int .i64 k) (.bool true) (.bool false)) := by
  match r, k, hr, hk, h with
  | 0, 0, _, _, h => exact absurd h (by decide)
  | 0, 1, _, _, _ => exact e3n_0_1 l ts b
  | 0, 2, _, _, h => exact absurd h (by decide)
  | 0, 3, _, _, _ => exact e3n_0_3 l ts b
  | 0, 4, _, _, h => exact absurd h (by decide)
  | 0, 5, _, _, _ => exact e3n_0_5 l ts b
  | 0, 6, _, _, h => exact absurd h (by decide)
  | 0, 7, _, _, _ => exact e3n_0_7 l ts b
  | 0, 8, _, _, h => exact absurd h (by decide)
  | 0, 9, _, _, _ => exact e3n_0_9 l ts b
  | 0, 10, _, _, h => exact absurd h (by decide)
  | 0, 11, _, _, _ => exact e3n_0_11 l ts b
  | 0, 12, _, _, h => exact absurd h (by decide)
  | 0, 13, _, _, _ => exact e3n_0_13 l ts b
  | 0, 14, _, _, h => exact absurd h (by decide)
  | 0, 15, _, _, _ => exact e3n_0_15 l ts b
  | 1, 0, _, _, h => exact absurd h (by decide)
  | 1, 1, _, _, h => exact absurd h (by decide)
  | 1, 2, _, _, _ => exact e3n_1_2 l ts b
  | 1, 3, _, _, _ => exact e3n_1_3 l ts b
  | 1, 4, _, _, h => exact absurd h (by decide)
  | 1, 5, _, _, h => exact absurd h (by decide)
  | 1, 6, _, _, _ => exact e3n_1_6 l ts b
  | 1, 7, _, _, _ => exact e3n_1_7 l ts b
  | 1, 8, _, _, h => exact absurd h (by decide)
  | 1, 9, _, _, h => exact absurd h (by decide)
  | 1, 10, _, _, _ => exact e3n_1_10 l ts b
  | 1, 11, _, _, _ => exact e3n_1_11 l ts b
  | 1, 12, _, _, h => exact absurd h (by decide)
  | 1, 13, _, _, h => exact absurd h (by decide)
  | 1, 14, _, _, _ => exact e3n_1_14 l ts b
  | 1, 15, _, _, _ => exact e3n_1_15 l ts b
  | 2, 0, _, _, h => exact absurd h (by decide)
  | 2, 1, _, _, h => exact absurd h (by decide)
  | 2, 2, _, _, h => exact absurd h (by decide)
  | 2, 3, _, _, h => exact absurd h (by decide)
  | 2, 4, _, _, _ => exact e3n_2_4 l ts b
  | 2, 5, _, _, _ => exact e3n_2_5 l ts b
  | 2, 6, _, _, _ => exact e3n_2_6 l ts b
  | 2, 7, _, _, _ => exact e3n_2_7 l ts b
  | 2, 8, _, _, h => exact absurd h (by decide)
  | 2, 9, _, _, h => exact absurd h (by decide)
  | 2, 10, _, _, h => exact absurd h (by decide)
  | 2, 11, _, _, h => exact absurd h (by decide)
  | 2, 12, _, _, _ => exact e3n_2_12 l ts b
  | 2, 13, _, _, _ => exact e3n_2_13 l ts b
  | 2, 14, _, _, _ => exact e3n_2_14 l ts b
  | 2, 15, _, _, _ => exact e3n_2_15 l ts b
  | 3, 0, _, _, h => exact absurd h (by decide)
  | 3, 1, _, _, h => exact absurd h (by decide)
  | 3, 2, _, _, h => exact absurd h (by decide)
  | 3, 3, _, _, h => exact absurd h (by decide)
  | 3, 4, _, _, h => exact absurd h (by decide)
  | 3, 5, _, _, h => exact absurd h (by decide)
  | 3, 6, _, _, h => exact absurd h (by decide)
  | 3, 7, _, _, h => exact absurd h (by decide)
  | 3, 8, _, _, _ => exact e3n_3_8 l ts b
  | 3, 9, _, _, _ => exact e3n_3_9 l ts b
  | 3, 10, _, _, _ => exact e3n_3_10 l ts b
  | 3, 11, _, _, _ => exact e3n_3_11 l ts b
  | 3, 12, _, _, _ => exact e3n_3_12 l ts b
  | 3, 13, _, _, _ => exact e3n_3_13 l ts b
  | 3, 14, _, _, _ => exact e3n_3_14 l ts b
  | 3, 15, _, _, _ => exact e3n_3_15 l ts b
  | r, k + 16, _, h, _ => exact absurd h (by omega)
  | r + 4, k, h, _, _ => exact absurd h (by omega)
theorem e3z (l : Nat) (ts b : List Int) (r k : Nat) : (runIx cB 6 q40_3.ops [15, 16] (s15 l ts b r k (.bool true))).map (fun x => { x.1 with env := x.1.env.take 7 }) = some (sI l ts b r k (.int .i64 k) (.bool true) (.bool false)) := by kernel_rfl
theorem e4 (l : Nat) (ts b : List Int) (r k : Nat) (hk : k < 16) : (runReg cB q40_4 (sI l ts b r k (.int .i64 k) (.bool true) (.bool false))).map (fun st => { st with env := killE [4, 6, 24] st.env }) = some (sI l ts b r (k + 1) .unk .unk .unk) := by
  match k, hk with
  | 0, _ => exact e4_0 l ts b r
  | 1, _ => exact e4_1 l ts b r
  | 2, _ => exact e4_2 l ts b r
  | 3, _ => exact e4_3 l ts b r
  | 4, _ => exact e4_4 l ts b r
  | 5, _ => exact e4_5 l ts b r
  | 6, _ => exact e4_6 l ts b r
  | 7, _ => exact e4_7 l ts b r
  | 8, _ => exact e4_8 l ts b r
  | 9, _ => exact e4_9 l ts b r
  | 10, _ => exact e4_10 l ts b r
  | 11, _ => exact e4_11 l ts b r
  | 12, _ => exact e4_12 l ts b r
  | 13, _ => exact e4_13 l ts b r
  | 14, _ => exact e4_14 l ts b r
  | 15, _ => exact e4_15 l ts b r
  | k + 16, h => exact absurd h (by omega)

end NF
end Go.Proofs.Ytmmfgbifbbiihaa