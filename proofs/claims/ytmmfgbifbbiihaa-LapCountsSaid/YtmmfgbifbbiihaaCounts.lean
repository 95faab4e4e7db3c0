/-
  The law of how many blocks there are, by the abstract machine. Conditions: none.
-/
import Derived.Test.YtmmfgbifbbiihaaTab
import Derived.Test.YtmmfgbifbbiihaaSxS
import Derived.KernelRfl
namespace Go.Proofs.Ytmmfgbifbbiihaa
open Go Go.Sx
set_option maxRecDepth 100000
set_option linter.unusedVariables false
attribute [local simp] evF evC runReg runOps stepOp stepEff evOp applyEff lk up Opd.ev fresh Sx.isAgg binEv binInt setRow Sx.bind resAll resEv leave Sx.tidy packRes cget csub cput ccat crep fillEv partsEv clen Sx.cells isScalar toRow ptrs ptrsL ren renL reach reachFuel currOf newest nodupB srcOf toOf renRow getRow idxEv boundEv eqAgg eqCells eqCell BT.isInt mkAgg allInts slLen slFirst slCells callAt backOf toMini binShift bitsOf unEv mx2 mxL runRec pairsOk disjB touch touchOp
set_option linter.unusedSimpArgs false
theorem awake_ok : evF tab 5 9 [] [] = some (.bool true, [], []) := by kernel_rfl
theorem count_out (n : Nat) (k : Int) (h : k < 1) : evF tab (n + 1) 8 [.int .i64 k] [] = some (.int .i64 0, [], []) := by
  have h' : k ≤ 0 := by omega
  simp [t8, sf8, r8_0, r8_1, r8_2, *]
theorem count_in (n : Nat) (k : Int) (h : 1 ≤ k) (h2 : k ≤ 9223372036854775807) : evF tab (n + 1) 8 [.int .i64 k] [] = some (.int .i64 ((k - 1) / 16 + 1), [], []) := by
  have h' : ¬ k < 1 := by omega
  have h3 : ¬ k ≤ 0 := by omega
  have e1 : IntKind.i64.wrap (k - 1) = k - 1 := IntWalk.i64_in _ (by omega)
  have e2 : IntKind.i64.wrap ((k - 1).tdiv 16) = (k - 1) / 16 := IntWalk.i64_quo _ _ (by omega)
  have e3 : IntKind.i64.wrap ((k - 1) / 16 + 1) = (k - 1) / 16 + 1 := IntWalk.i64_in _ (by omega)
  simp [t8, sf8, r8_0, r8_1, r8_3, h', h3, e1, e2, e3]
theorem counts (k : Int) (w : (Lit.int .i64 k).wf = true) : evF tab 6 3 [.int .i64 k] [] = some (.bool true, [], []) := by
  have hw := wf64 w
  have a := awake_ok
  by_cases h : k < 1
  · have e := count_out 4 k h
    have h' : k ≤ 0 := by omega
    unfold evF
    generalize evF tab 5 = C at *
    simp [t3, sf3, r3_0, r3_1, r3_2, r3_3, h, h', a, e]
  · have e := count_in 4 k (by omega) (by omega)
    have h3 : ¬ k ≤ 0 := by omega
    have e1 : IntKind.i64.wrap (k - 1) = k - 1 := IntWalk.i64_in _ (by omega)
    have e2 : IntKind.i64.wrap ((k - 1).tdiv 16) = (k - 1) / 16 := IntWalk.i64_quo _ _ (by omega)
    have e3 : IntKind.i64.wrap ((k - 1) / 16 + 1 - 1) = (k - 1) / 16 := by rw [IntWalk.i64_in _ (by omega)]; omega
    have e4 : IntKind.i64.wrap ((k - 1) / 16) = (k - 1) / 16 := IntWalk.i64_in _ (by omega)
    have h5 : 1 ≤ (k - 1) / 16 + 1 := by omega
    have h6 : 0 ≤ (k - 1) / 16 := by omega
    unfold evF
    generalize evF tab 5 = C at *
    simp [t3, sf3, r3_0, r3_1, r3_2, r3_4, h, h3, a, e, e1, e2, e3, e4, h5, h6]
end Go.Proofs.Ytmmfgbifbbiihaa
