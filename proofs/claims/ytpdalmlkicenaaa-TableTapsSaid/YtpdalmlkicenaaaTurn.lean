/-
  The turns' law, by the abstract machine. Conditions: none.
-/
import Derived.Test.YtpdalmlkicenaaaTab
import Derived.Test.YtpdalmlkicenaaaSxR
import Derived.KernelRfl
namespace Go.Proofs.Ytpdalmlkicenaaa
open Go Go.Sx
set_option maxRecDepth 100000
set_option linter.unusedVariables false
attribute [local simp] evF evC runReg runOps stepOp stepEff evOp applyEff lk up Opd.ev fresh Sx.isAgg binEv binInt setRow Sx.bind resAll resEv leave Sx.tidy packRes cget csub cput ccat crep fillEv partsEv clen Sx.cells isScalar toRow ptrs ptrsL ren renL reach reachFuel currOf newest nodupB srcOf toOf renRow getRow idxEv boundEv eqAgg eqCells eqCell BT.isInt mkAgg allInts slLen slFirst slCells callAt backOf toMini binShift bitsOf unEv mx2 mxL runRec pairsOk disjB touch touchOp
theorem awake_ok : evF tab 5 8 [] [] = some (.bool true, [], []) := by kernel_rfl
theorem turn_out (n : Nat) (k : Int) (h : k < 0 ∨ 7 < k) : evF tab (n + 1) 7 [.int .i64 k] [] = some (.ints .i64 [0, 0], [], []) := by
  rcases h with h | h
  · simp [t7, sf7, r7_0, r7_1, r7_2, r7_3, h]
  · have h1 : ¬ k < 0 := by omega
    have h2 : 8 ≤ k := by omega
    simp [t7, sf7, r7_0, r7_1, r7_2, r7_3, *]
theorem turns_in (k : Int) (h1 : 0 ≤ k) (h2 : k < 0 + (8 : Nat)) : evF tab 6 3 [.int .i64 k] [] = some (.bool true, [], []) :=
  of_isTrue (all_range (p := fun k => isTrue (evF tab 6 3 [.int .i64 k] [])) (by kernel_rfl) h1 h2)
theorem turns_out (k : Int) (h : k < 0 ∨ 7 < k) : evF tab 6 3 [.int .i64 k] [] = some (.bool true, [], []) := by
  have e := turn_out 4 k h
  have a := awake_ok
  unfold evF
  generalize evF tab 5 = C at *
  rcases h with h | h
  · simp [t3, sf3, r3_0, r3_1, r3_2, r3_3, h, e, a]
  · have h1 : ¬ k < 0 := by omega
    have h2 : 8 ≤ k := by omega
    simp [t3, sf3, r3_0, r3_1, r3_2, r3_3, *]
theorem turns (k : Int) : evF tab 6 3 [.int .i64 k] [] = some (.bool true, [], []) := by
  by_cases h : k < 0 ∨ 7 < k
  · exact turns_out k h
  · exact turns_in k (by omega) (by omega)
end Go.Proofs.Ytpdalmlkicenaaa
