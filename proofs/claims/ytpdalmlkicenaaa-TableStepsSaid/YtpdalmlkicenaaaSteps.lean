/-
  The steps', taps' and notes' laws, by the abstract machine. Conditions: none.
-/
import Derived.Test.YtpdalmlkicenaaaTurn
namespace Go.Proofs.Ytpdalmlkicenaaa
open Go Go.Sx
set_option maxRecDepth 100000
set_option linter.unusedVariables false
attribute [local simp] evF evC runReg runOps stepOp stepEff evOp applyEff lk up Opd.ev fresh Sx.isAgg binEv binInt setRow Sx.bind resAll resEv leave Sx.tidy packRes cget csub cput ccat crep fillEv partsEv clen Sx.cells isScalar toRow ptrs ptrsL ren renL reach reachFuel currOf newest nodupB srcOf toOf renRow getRow idxEv boundEv eqAgg eqCells eqCell BT.isInt mkAgg allInts slLen slFirst slCells callAt backOf toMini binShift bitsOf unEv mx2 mxL runRec pairsOk disjB touch touchOp
theorem step_out (n : Nat) (k : Int) (h : k < 0 ∨ 23 < k) : evF tab (n + 1) 10 [.int .i64 k] [] = some (.int .i64 0, [], []) := by
  rcases h with h | h
  · simp [t10, sf10, r10_0, r10_1, r10_2, h]
  · have h1 : ¬ k < 0 := by omega
    have h2 : 24 ≤ k := by omega
    simp [t10, sf10, r10_0, r10_1, r10_2, *]
theorem steps (k : Int) : evF tab 6 4 [.int .i64 k] [] = some (.bool true, [], []) := by
  by_cases h : k < 0 ∨ 23 < k
  · have e := step_out 4 k h
    have a := awake_ok
    unfold evF
    generalize evF tab 5 = C at *
    rcases h with h | h
    · simp [t4, sf4, r4_0, r4_1, r4_2, *]
    · have h1 : ¬ k < 0 := by omega
      have h2 : 24 ≤ k := by omega
      simp [t4, sf4, r4_0, r4_1, r4_2, *]
  · exact of_isTrue (all_range (lo := 0) (n := 24) (p := fun k => isTrue (evF tab 6 4 [.int .i64 k] [])) (by kernel_rfl) (by omega) (by omega))
end Go.Proofs.Ytpdalmlkicenaaa
