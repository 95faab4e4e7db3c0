/-
  What the package of plain numbers computes, by the abstract machine. Conditions: none.
-/
import Derived.Test.YtkgcilalmhejcaaTab
import Derived.Test.YtkgcilalmhejcaaSxS
import Derived.KernelRfl
namespace Go.Proofs.Ytkgcilalmhejcaa
open Go Go.Sx
set_option maxRecDepth 100000
set_option linter.unusedVariables false
attribute [local simp] evF evC runReg runOps stepOp stepEff evOp applyEff lk up Opd.ev fresh Sx.isAgg binEv binInt setRow Sx.bind resAll resEv leave Sx.tidy packRes cget csub cput ccat crep fillEv partsEv clen Sx.cells isScalar toRow ptrs ptrsL ren renL reach reachFuel currOf newest nodupB srcOf toOf renRow getRow idxEv boundEv eqAgg eqCells eqCell BT.isInt mkAgg allInts slLen slFirst slCells callAt backOf toMini binShift bitsOf unEv mx2 mxL runRec pairsOk disjB touch touchOp
set_option linter.unusedSimpArgs false
def clampV (x lo hi : Int) : Int := if x < lo then lo else if hi < x then hi else x
theorem clamp_ok (n : Nat) (x lo hi : Int) (h : lo ≤ hi) : evF tab (n + 1) 20 [.int .i64 x, .int .i64 lo, .int .i64 hi] [] = some (.int .i64 (clampV x lo hi), [], []) := by
  have h0 : ¬ hi < lo := by omega
  by_cases h1 : x < lo
  · have h1' : ¬ lo ≤ x := by omega
    simp [t20, sf20, r20_0, r20_1, r20_2, clampV, h1, h1']
  · by_cases h2 : hi < x
    · simp [t20, sf20, r20_0, r20_1, r20_3, r20_4, clampV, h1, h0, h2]
    · simp [t20, sf20, r20_0, r20_1, r20_3, r20_5, clampV, h1, h0, h2]
theorem round17 (n : Nat) (x : Int) (h : -9223372036854775808 ≤ x ∧ x ≤ 9223372036854775807) : evF tab (n + 1) 9 [.int .i64 x, .int .i64 17] [] = some (.int .i64 (x / 131072 + x / 65536 % 2), [], []) := by
  have e : IntKind.i64.wrap (x / 131072 + x / 65536 % 2) = x / 131072 + x / 65536 % 2 := IntWalk.i64_in _ (by omega)
  have e2 : IntKind.i64.wrap 16 = 16 := IntWalk.i64_in _ (by omega)
  have f1 : x.fdiv 131072 = x / 131072 := Int.fdiv_eq_ediv_of_nonneg _ (by omega)
  have f2 : x.fdiv 65536 = x / 65536 := Int.fdiv_eq_ediv_of_nonneg _ (by omega)
  simp [t9, sf9, r9_0, r9_1, r9_3, r9_5, -bitsOf, bits_one, IntKind.bits, e2, f1, f2, e]
theorem round16 (n : Nat) (x : Int) (h : -9223372036854775808 ≤ x ∧ x ≤ 9223372036854775807) : evF tab (n + 1) 9 [.int .i64 x, .int .i64 16] [] = some (.int .i64 (x / 65536 + x / 32768 % 2), [], []) := by
  have e : IntKind.i64.wrap (x / 65536 + x / 32768 % 2) = x / 65536 + x / 32768 % 2 := IntWalk.i64_in _ (by omega)
  have e2 : IntKind.i64.wrap 15 = 15 := IntWalk.i64_in _ (by omega)
  have f1 : x.fdiv 65536 = x / 65536 := Int.fdiv_eq_ediv_of_nonneg _ (by omega)
  have f2 : x.fdiv 32768 = x / 32768 := Int.fdiv_eq_ediv_of_nonneg _ (by omega)
  simp [t9, sf9, r9_0, r9_1, r9_3, r9_5, -bitsOf, bits_one, IntKind.bits, e2, f1, f2, e]
end Go.Proofs.Ytkgcilalmhejcaa
