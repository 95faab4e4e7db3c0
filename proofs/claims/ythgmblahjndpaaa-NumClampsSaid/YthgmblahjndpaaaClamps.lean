/-
  The law of numbers held within bounds, by the abstract machine. Conditions: none.
-/
import Derived.Test.YthgmblahjndpaaaBase03
import Derived.Test.YthgmblahjndpaaaSxS
import Derived.KernelRfl
namespace Go.Proofs.Ythgmblahjndpaaa
open Go Go.Sx
set_option maxRecDepth 100000
set_option linter.unusedVariables false
attribute [local simp] evF evC runReg runOps stepOp stepEff evOp applyEff lk up Opd.ev fresh Sx.isAgg binEv binInt setRow Sx.bind resAll resEv leave Sx.tidy packRes cget csub cput ccat crep fillEv partsEv clen Sx.cells isScalar toRow ptrs ptrsL ren renL reach reachFuel currOf newest nodupB srcOf toOf renRow getRow idxEv boundEv eqAgg eqCells eqCell BT.isInt mkAgg allInts slLen slFirst slCells callAt backOf toMini binShift bitsOf unEv mx2 mxL runRec pairsOk disjB touch touchOp
set_option linter.unusedSimpArgs false
def clampG (x lo hi : Int) : Int := if x < lo then lo else if hi < lo then lo else if hi < x then hi else x
theorem clampG_ok (n : Nat) (x lo hi : Int) : evF tab (n + 1) 14 [.int .i64 x, .int .i64 lo, .int .i64 hi] [] = some (.int .i64 (clampG x lo hi), [], []) := by
  by_cases h1 : x < lo
  · simp -implicitDefEqProofs [t14, sf14, r14_0, r14_1, r14_2, clampG, h1]
  · by_cases h0 : hi < lo
    · simp -implicitDefEqProofs [t14, sf14, r14_0, r14_1, r14_2, clampG, h1, h0]
    · by_cases h2 : hi < x
      · simp -implicitDefEqProofs [t14, sf14, r14_0, r14_1, r14_3, r14_4, clampG, h1, h0, h2]
      · simp -implicitDefEqProofs [t14, sf14, r14_0, r14_1, r14_3, r14_5, clampG, h1, h0, h2]
theorem clampL_ok (n : Nat) (x lo hi : Int) : evF tab (n + 1) 15 [.int .i64 x, .int .i64 lo, .int .i64 hi] [] = some (.int .i64 (clampG x lo hi), [], []) := by
  by_cases h0 : hi < lo
  · simp -implicitDefEqProofs [t15, sf15, r15_0, r15_1, r15_2, clampG, h0]
  · by_cases h1 : x < lo
    · simp -implicitDefEqProofs [t15, sf15, r15_0, r15_1, r15_2, clampG, h1, h0]
    · by_cases h2 : hi < x
      · simp -implicitDefEqProofs [t15, sf15, r15_0, r15_1, r15_3, r15_4, clampG, h1, h0, h2]
      · simp -implicitDefEqProofs [t15, sf15, r15_0, r15_1, r15_3, r15_5, clampG, h1, h0, h2]
theorem sat_ok (n : Nat) (x : Int) : evF tab (n + 2) 16 [.int .i64 x] [] = some (.int .i64 (clampG x (-32768) 32767), [], []) := by
  have c := clampG_ok n x (-32768) 32767
  unfold evF
  generalize evF tab (n + 1) = C at *
  simp -implicitDefEqProofs [t16, sf16, r16_0, r16_1, c]
def absV (x : Int) : Int := if x = -9223372036854775808 then 9223372036854775807 else if x < 0 then -x else x
theorem abs_ok (n : Nat) (x : Int) (hx : -9223372036854775808 ≤ x ∧ x ≤ 9223372036854775807) : evF tab (n + 1) 17 [.int .i64 x] [] = some (.int .i64 (absV x), [], []) := by
  by_cases h0 : x = -9223372036854775808
  · simp -implicitDefEqProofs [t17, sf17, r17_0, r17_1, r17_2, absV, h0]
  · have hb : (x == -9223372036854775808) = false := by simp [h0]
    by_cases h1 : x < 0
    · have e : IntKind.i64.wrap (-x) = -x := IntWalk.i64_in _ (by omega)
      simp -implicitDefEqProofs [t17, sf17, r17_0, r17_1, r17_3, r17_4, absV, h0, hb, h1, e]
    · simp -implicitDefEqProofs [t17, sf17, r17_0, r17_1, r17_3, r17_5, absV, h0, hb, h1]
theorem neg_min (v : Int) (h : v = -9223372036854775808) : IntKind.i64.wrap (-v) = v := by rw [IntKind.wrap_i64]; omega
theorem clamps_min (v lo hi x y : Int) (C : CallF) (h1 : v < 0) (e : IntKind.i64.wrap (-v) = v) (a : C 11 [] [] = some (.bool true, [], []))
    (c1 : C 14 [.int .i64 v, .int .i64 lo, .int .i64 hi] [] = some (.int .i64 x, [], [])) (c2 : C 15 [.int .i64 v, .int .i64 lo, .int .i64 hi] [] = some (.int .i64 x, [], []))
    (c3 : C 16 [.int .i64 v] [] = some (.int .i64 y, [], [])) (c4 : C 15 [.int .i64 v, .int .i64 (-32768), .int .i64 32767] [] = some (.int .i64 y, [], []))
    (c5 : C 17 [.int .i64 v] [] = some (.int .i64 9223372036854775807, [], [])) :
    finish sf5 0 (evC C sf5.body { env := Sx.bind sf5 [.int .i64 v, .int .i64 lo, .int .i64 hi], heap := [] }) = some (.bool true, [], []) := by
  simp -implicitDefEqProofs [finish, sf5, r5_0, r5_1, r5_2, r5_3, r5_4, r5_5, r5_6, a, c1, c2, c3, c4, c5, e, h1]
theorem clamps_neg (v lo hi x y : Int) (C : CallF) (h1 : v < 0) (h2 : 0 < -v) (e : IntKind.i64.wrap (-v) = -v) (a : C 11 [] [] = some (.bool true, [], []))
    (c1 : C 14 [.int .i64 v, .int .i64 lo, .int .i64 hi] [] = some (.int .i64 x, [], [])) (c2 : C 15 [.int .i64 v, .int .i64 lo, .int .i64 hi] [] = some (.int .i64 x, [], []))
    (c3 : C 16 [.int .i64 v] [] = some (.int .i64 y, [], [])) (c4 : C 15 [.int .i64 v, .int .i64 (-32768), .int .i64 32767] [] = some (.int .i64 y, [], []))
    (c5 : C 17 [.int .i64 v] [] = some (.int .i64 (-v), [], [])) :
    finish sf5 0 (evC C sf5.body { env := Sx.bind sf5 [.int .i64 v, .int .i64 lo, .int .i64 hi], heap := [] }) = some (.bool true, [], []) := by
  have e3 : ¬ 0 < v := by omega
  simp -implicitDefEqProofs [finish, sf5, r5_0, r5_1, r5_2, r5_3, r5_4, r5_6, a, c1, c2, c3, c4, c5, e, h1, e3]
theorem clamps_pos (v lo hi x y : Int) (C : CallF) (h1 : ¬ v < 0) (a : C 11 [] [] = some (.bool true, [], []))
    (c1 : C 14 [.int .i64 v, .int .i64 lo, .int .i64 hi] [] = some (.int .i64 x, [], [])) (c2 : C 15 [.int .i64 v, .int .i64 lo, .int .i64 hi] [] = some (.int .i64 x, [], []))
    (c3 : C 16 [.int .i64 v] [] = some (.int .i64 y, [], [])) (c4 : C 15 [.int .i64 v, .int .i64 (-32768), .int .i64 32767] [] = some (.int .i64 y, [], []))
    (c5 : C 17 [.int .i64 v] [] = some (.int .i64 v, [], [])) :
    finish sf5 0 (evC C sf5.body { env := Sx.bind sf5 [.int .i64 v, .int .i64 lo, .int .i64 hi], heap := [] }) = some (.bool true, [], []) := by
  simp -implicitDefEqProofs [finish, sf5, r5_0, r5_1, r5_2, r5_4, r5_6, a, c1, c2, c3, c4, c5, h1]
theorem clamps (v lo hi : Int) (wv : (Lit.int .i64 v).wf = true) : evF tab 6 5 [.int .i64 v, .int .i64 lo, .int .i64 hi] [] = some (.bool true, [], []) := by
  have hv := wf64 wv
  have c1 := clampG_ok 4 v lo hi
  have c2 := clampL_ok 4 v lo hi
  have c3 := sat_ok 3 v
  have c4 := clampL_ok 4 v (-32768) 32767
  have c5 := abs_ok 4 v hv
  rw [evF_eq t5 rfl]
  by_cases h0 : v = -9223372036854775808
  · have e2 : absV v = 9223372036854775807 := by unfold absV; rw [if_pos h0]
    rw [e2] at c5
    exact clamps_min v lo hi _ _ _ (by omega) (neg_min v h0) awake_ok c1 c2 c3 c4 c5
  · by_cases h1 : v < 0
    · have e2 : absV v = -v := by unfold absV; rw [if_neg h0, if_pos h1]
      rw [e2] at c5
      exact clamps_neg v lo hi _ _ _ h1 (by omega) (IntWalk.i64_in _ (by omega)) awake_ok c1 c2 c3 c4 c5
    · have e2 : absV v = v := by unfold absV; rw [if_neg h0, if_neg h1]
      rw [e2] at c5
      exact clamps_pos v lo hi _ _ _ h1 awake_ok c1 c2 c3 c4 c5
end Go.Proofs.Ythgmblahjndpaaa
