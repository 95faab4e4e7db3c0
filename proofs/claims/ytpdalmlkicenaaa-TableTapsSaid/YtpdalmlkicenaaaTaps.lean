/-
  The steps', taps' and notes' laws, by the abstract machine. Conditions: none.
-/
import Derived.Test.YtpdalmlkicenaaaTurn
namespace Go.Proofs.Ytpdalmlkicenaaa
open Go Go.Sx
set_option maxRecDepth 100000
set_option linter.unusedVariables false
attribute [local simp] evF evC runReg runOps stepOp stepEff evOp applyEff lk up Opd.ev fresh Sx.isAgg binEv binInt setRow Sx.bind resAll resEv leave Sx.tidy packRes cget csub cput ccat crep fillEv partsEv clen Sx.cells isScalar toRow ptrs ptrsL ren renL reach reachFuel currOf newest nodupB srcOf toOf renRow getRow idxEv boundEv eqAgg eqCells eqCell BT.isInt mkAgg allInts slLen slFirst slCells callAt backOf toMini binShift bitsOf unEv mx2 mxL runRec pairsOk disjB touch touchOp
set_option linter.unusedSimpArgs false
theorem taps_out (n : Nat) (k : Int) (h : k < 0 ∨ 31 < k) : evF tab (n + 1) 12 [.int .i64 k] [] = some (.ints .i64 [0, 0, 0, 0], [], []) := by
  rcases h with h | h
  · simp [t12, sf12, r12_0, r12_1, r12_2, h]
  · have h1 : ¬ k < 0 := by omega
    have h2 : 32 ≤ k := by omega
    simp [t12, sf12, r12_0, r12_1, r12_2, *]
def tapsTable : Option (EV × List Row × List Nat) := some (.ints .i64 [0, 65536, 0, 0, -961, 65379, 1149, -31, -1800, 64920, 2536, -120, -2523, 64177, 4143, -261, -3136, 63168, 5952, -448, -3645, 61911, 7945, -675, -4056, 60424, 10104, -936, -4375, 58725, 12411, -1225, -4608, 56832, 14848, -1536, -4761, 54763, 17397, -1863, -4840, 52536, 20040, -2200, -4851, 50169, 22759, -2541, -4800, 47680, 25536, -2880, -4693, 45087, 28353, -3211, -4536, 42408, 31192, -3528, -4335, 39661, 34035, -3825, -4096, 36864, 36864, -4096, -3825, 34035, 39661, -4335, -3528, 31192, 42408, -4536, -3211, 28353, 45087, -4693, -2880, 25536, 47680, -4800, -2541, 22759, 50169, -4851, -2200, 20040, 52536, -4840, -1863, 17397, 54763, -4761, -1536, 14848, 56832, -4608, -1225, 12411, 58725, -4375, -936, 10104, 60424, -4056, -675, 7945, 61911, -3645, -448, 5952, 63168, -3136, -261, 4143, 64177, -2523, -120, 2536, 64920, -1800, -31, 1149, 65379, -961], [], [])
theorem table_ok : evF tab 5 13 [] [] = tapsTable := by kernel_rfl
def tapsC : CallF := memo (memo (evF tab 5) 13 tapsTable) 8 (some (.bool true, [], []))
theorem tapsC_eq : tapsC = evF tab 5 := by
  unfold tapsC
  rw [memo_eq table_ok, memo_eq awake_ok]
theorem taps_in_0  : ((List.range 4).all fun i => (fun k => isTrue (finish sf5 0 (evC tapsC sf5.body { env := Sx.bind sf5 [.int .i64 k], heap := [] }))) (0 + i)) = true := by kernel_rfl
theorem taps_in_4  : ((List.range 4).all fun i => (fun k => isTrue (finish sf5 0 (evC tapsC sf5.body { env := Sx.bind sf5 [.int .i64 k], heap := [] }))) (4 + i)) = true := by kernel_rfl
theorem taps_in_8  : ((List.range 4).all fun i => (fun k => isTrue (finish sf5 0 (evC tapsC sf5.body { env := Sx.bind sf5 [.int .i64 k], heap := [] }))) (8 + i)) = true := by kernel_rfl
theorem taps_in_12  : ((List.range 4).all fun i => (fun k => isTrue (finish sf5 0 (evC tapsC sf5.body { env := Sx.bind sf5 [.int .i64 k], heap := [] }))) (12 + i)) = true := by kernel_rfl
theorem taps_in_16  : ((List.range 4).all fun i => (fun k => isTrue (finish sf5 0 (evC tapsC sf5.body { env := Sx.bind sf5 [.int .i64 k], heap := [] }))) (16 + i)) = true := by kernel_rfl
theorem taps_in_20  : ((List.range 4).all fun i => (fun k => isTrue (finish sf5 0 (evC tapsC sf5.body { env := Sx.bind sf5 [.int .i64 k], heap := [] }))) (20 + i)) = true := by kernel_rfl
theorem taps_in_24  : ((List.range 4).all fun i => (fun k => isTrue (finish sf5 0 (evC tapsC sf5.body { env := Sx.bind sf5 [.int .i64 k], heap := [] }))) (24 + i)) = true := by kernel_rfl
theorem taps_in_28  : ((List.range 4).all fun i => (fun k => isTrue (finish sf5 0 (evC tapsC sf5.body { env := Sx.bind sf5 [.int .i64 k], heap := [] }))) (28 + i)) = true := by kernel_rfl
theorem taps_in  (k : Int) (h1 : 0 ≤ k) (h2 : k < 32) : (fun k => isTrue (finish sf5 0 (evC tapsC sf5.body { env := Sx.bind sf5 [.int .i64 k], heap := [] }))) k = true := by
  by_cases h0 : k < 4
  · exact all_range (p := (fun k => isTrue (finish sf5 0 (evC tapsC sf5.body { env := Sx.bind sf5 [.int .i64 k], heap := [] })))) (taps_in_0) (by omega) (by omega)
  by_cases h4 : k < 8
  · exact all_range (p := (fun k => isTrue (finish sf5 0 (evC tapsC sf5.body { env := Sx.bind sf5 [.int .i64 k], heap := [] })))) (taps_in_4) (by omega) (by omega)
  by_cases h8 : k < 12
  · exact all_range (p := (fun k => isTrue (finish sf5 0 (evC tapsC sf5.body { env := Sx.bind sf5 [.int .i64 k], heap := [] })))) (taps_in_8) (by omega) (by omega)
  by_cases h12 : k < 16
  · exact all_range (p := (fun k => isTrue (finish sf5 0 (evC tapsC sf5.body { env := Sx.bind sf5 [.int .i64 k], heap := [] })))) (taps_in_12) (by omega) (by omega)
  by_cases h16 : k < 20
  · exact all_range (p := (fun k => isTrue (finish sf5 0 (evC tapsC sf5.body { env := Sx.bind sf5 [.int .i64 k], heap := [] })))) (taps_in_16) (by omega) (by omega)
  by_cases h20 : k < 24
  · exact all_range (p := (fun k => isTrue (finish sf5 0 (evC tapsC sf5.body { env := Sx.bind sf5 [.int .i64 k], heap := [] })))) (taps_in_20) (by omega) (by omega)
  by_cases h24 : k < 28
  · exact all_range (p := (fun k => isTrue (finish sf5 0 (evC tapsC sf5.body { env := Sx.bind sf5 [.int .i64 k], heap := [] })))) (taps_in_24) (by omega) (by omega)
  by_cases h28 : k < 32
  · exact all_range (p := (fun k => isTrue (finish sf5 0 (evC tapsC sf5.body { env := Sx.bind sf5 [.int .i64 k], heap := [] })))) (taps_in_28) (by omega) (by omega)
  omega
theorem taps (k : Int) : evF tab 6 5 [.int .i64 k] [] = some (.bool true, [], []) := by
  by_cases h : k < 0 ∨ 31 < k
  · have e := taps_out 4 k h
    have a := awake_ok
    unfold evF
    generalize evF tab 5 = C at *
    rcases h with h | h
    · simp [t5, sf5, r5_0, r5_1, r5_2, r5_3, *]
    · have h1 : ¬ k < 0 := by omega
      have h2 : 32 ≤ k := by omega
      simp [t5, sf5, r5_0, r5_1, r5_2, r5_3, *]
  · have e := of_isTrue (taps_in k (by omega) (by omega))
    rw [tapsC_eq] at e
    rw [evF_eq t5 rfl]
    exact e
end Go.Proofs.Ytpdalmlkicenaaa
