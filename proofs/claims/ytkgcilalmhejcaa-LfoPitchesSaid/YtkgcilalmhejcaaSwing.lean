/-
  What the swing's laws have in common, by the abstract machine. Conditions: none.
-/
import Derived.Test.YtkgcilalmhejcaaNum
namespace Go.Proofs.Ytkgcilalmhejcaa
open Go Go.Sx
set_option maxRecDepth 100000
set_option linter.unusedVariables false
attribute [local simp] evF evC runReg runOps stepOp stepEff evOp applyEff lk up Opd.ev fresh Sx.isAgg binEv binInt setRow Sx.bind resAll resEv leave Sx.tidy packRes cget csub cput ccat crep fillEv partsEv clen Sx.cells isScalar toRow ptrs ptrsL ren renL reach reachFuel currOf newest nodupB srcOf toOf renRow getRow idxEv boundEv eqAgg eqCells eqCell BT.isInt mkAgg allInts slLen slFirst slCells callAt backOf toMini binShift bitsOf unEv mx2 mxL runRec pairsOk disjB touch touchOp
set_option linter.unusedSimpArgs false
theorem awake_ok : evF tab 5 8 [] [] = some (.bool true, [], []) := by kernel_rfl
theorem clamp_within (x lo hi : Int) (h : lo ≤ hi) : lo ≤ clampV x lo hi ∧ clampV x lo hi ≤ hi := by
  unfold clampV
  split
  · omega
  · split <;> omega
theorem hold_ok (n : Nat) (x : Int) : evF tab (n + 1) 10 [.int .i64 x] [] = some (.int .i64 (clampV x (-256) 256), [], []) := by
  by_cases h1 : x < -256
  · have h2 : ¬ 256 < x := by omega
    have h3 : ¬ 257 ≤ x := by omega
    simp [t10, sf10, r10_0, r10_1, r10_3, r10_4, clampV, h1, h2, h3]
  · by_cases h2 : 256 < x
    · have h3 : 257 ≤ x := by omega
      simp [t10, sf10, r10_0, r10_1, r10_2, clampV, h1, h2, h3]
    · have h3 : ¬ 257 ≤ x := by omega
      simp [t10, sf10, r10_0, r10_1, r10_3, r10_5, clampV, h1, h2, h3]
end Go.Proofs.Ytkgcilalmhejcaa
