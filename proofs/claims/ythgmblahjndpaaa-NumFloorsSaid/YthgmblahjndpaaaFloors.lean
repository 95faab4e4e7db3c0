/-
  The law of quotients downwards, by the abstract machine. Conditions: none.
-/
import Derived.Test.YthgmblahjndpaaaBase03
namespace Go.Proofs.Ythgmblahjndpaaa
open Go Go.Sx
set_option maxRecDepth 100000
set_option linter.unusedVariables false
attribute [local simp] evF evC runReg runOps stepOp stepEff evOp applyEff lk up Opd.ev fresh Sx.isAgg binEv binInt setRow Sx.bind resAll resEv leave Sx.tidy packRes cget csub cput ccat crep fillEv partsEv clen Sx.cells isScalar toRow ptrs ptrsL ren renL reach reachFuel currOf newest nodupB srcOf toOf renRow getRow idxEv boundEv eqAgg eqCells eqCell BT.isInt mkAgg allInts slLen slFirst slCells callAt backOf toMini binShift bitsOf unEv mx2 mxL runRec pairsOk disjB touch touchOp
set_option linter.unusedSimpArgs false
theorem floor_out (n : Nat) (a b : Int) (h : b < 1) : evF tab (n + 1) 18 [.int .i64 a, .int .i64 b] [] = some (.int .i64 0, [], []) := by
  have h' : b ≤ 0 := by omega
  simp [t18, sf18, r18_0, r18_1, r18_2, h, h']
theorem mod_out (n : Nat) (a b : Int) (h : b < 1) : evF tab (n + 1) 19 [.int .i64 a, .int .i64 b] [] = some (.int .i64 0, [], []) := by
  have h' : b ≤ 0 := by omega
  simp [t19, sf19, r19_0, r19_1, r19_2, h, h']
theorem quo_within {a b : Int} (ha : -9223372036854775808 ≤ a ∧ a ≤ 9223372036854775807) (hb : 1 ≤ b) : IntKind.i64.wrap (a.tdiv b) = a.tdiv b :=
  IntWalk.i64_quo' a b (by omega)
theorem floors (a b : Int) (wa : (Lit.int .i64 a).wf = true) : evF tab 6 6 [.int .i64 a, .int .i64 b] [] = some (.bool true, [], []) := by
  have ha := wf64 wa
  have w := awake_ok
  by_cases h : b < 1
  · have c1 := floor_out 4 a b h
    have c2 := mod_out 4 a b h
    have h' : b ≤ 0 := by omega
    unfold evF
    generalize evF tab 5 = C at *
    simp [t6, sf6, r6_0, r6_1, r6_2, r6_3, h, h', w, c1, c2]
  · have h' : ¬ b ≤ 0 := by omega
    have h0 : ¬ b = 0 := by omega
    have q := quo_within ha (b := b) (by omega)
    by_cases hm : a.tmod b < 0
    · have c1 : evF tab 5 18 [.int .i64 a, .int .i64 b] [] = some (.int .i64 (IntKind.i64.wrap (a.tdiv b - 1)), [], []) := by
        simp [t18, sf18, r18_0, r18_1, r18_3, r18_4, r18_5, r18_6, h, h', h0, hm, q]
      have c2 : evF tab 5 19 [.int .i64 a, .int .i64 b] [] = some (.int .i64 (IntKind.i64.wrap (a.tmod b + b)), [], []) := by
        simp [t19, sf19, r19_0, r19_1, r19_3, r19_4, r19_5, r19_6, h, h', h0, hm]
      have c3 : evF tab 5 20 [.int .i64 a, .int .i64 b] [] = some (.int .i64 1, [], []) := by
        simp [t20, sf20, r20_0, r20_1, r20_2, h0, hm]
      unfold evF
      generalize evF tab 5 = C at *
      simp [t6, sf6, r6_0, r6_1, r6_2, r6_4, r6_5, r6_6, r6_7, h, h', h0, hm, q, w, c1, c2, c3]
    · have c1 : evF tab 5 18 [.int .i64 a, .int .i64 b] [] = some (.int .i64 (a.tdiv b), [], []) := by
        simp [t18, sf18, r18_0, r18_1, r18_3, r18_4, r18_6, h, h', h0, hm, q]
      have c2 : evF tab 5 19 [.int .i64 a, .int .i64 b] [] = some (.int .i64 (a.tmod b), [], []) := by
        simp [t19, sf19, r19_0, r19_1, r19_3, r19_4, r19_6, h, h', h0, hm]
      have c3 : evF tab 5 20 [.int .i64 a, .int .i64 b] [] = some (.int .i64 0, [], []) := by
        simp [t20, sf20, r20_0, r20_1, r20_3, h0, hm]
      unfold evF
      generalize evF tab 5 = C at *
      simp [t6, sf6, r6_0, r6_1, r6_2, r6_4, r6_5, r6_7, h, h', h0, hm, q, w, c1, c2, c3]
end Go.Proofs.Ythgmblahjndpaaa
