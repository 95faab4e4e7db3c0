/-
  What the laws of numbers have in common, by the abstract machine. Conditions: none.
-/
import Derived.Test.YthgmblahjndpaaaTab
import Derived.Test.YthgmblahjndpaaaSxS
import Derived.KernelRfl
namespace Go.Proofs.Ythgmblahjndpaaa
open Go Go.Sx
set_option maxRecDepth 100000
set_option linter.unusedVariables false
attribute [local simp] evF evC runReg runOps stepOp stepEff evOp applyEff lk up Opd.ev fresh Sx.isAgg binEv binInt setRow Sx.bind resAll resEv leave Sx.tidy packRes cget csub cput ccat crep fillEv partsEv clen Sx.cells isScalar toRow ptrs ptrsL ren renL reach reachFuel currOf newest nodupB srcOf toOf renRow getRow idxEv boundEv eqAgg eqCells eqCell BT.isInt mkAgg allInts slLen slFirst slCells callAt backOf toMini binShift bitsOf unEv mx2 mxL runRec pairsOk disjB touch touchOp
set_option linter.unusedSimpArgs false
theorem awake_ok : evF tab 5 11 [] [] = some (.bool true, [], []) := by kernel_rfl
end Go.Proofs.Ythgmblahjndpaaa
