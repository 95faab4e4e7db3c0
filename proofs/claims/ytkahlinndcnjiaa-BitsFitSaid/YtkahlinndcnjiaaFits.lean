/-
  The law of which numbers fit how many bits, by the abstract machine. Conditions: none.
-/
import Derived.Test.YtkahlinndcnjiaaTab
import Derived.Test.YtkahlinndcnjiaaSxS
import Derived.KernelRfl
namespace Go.Proofs.Ytkahlinndcnjiaa
open Go Go.Sx
set_option maxRecDepth 100000
set_option linter.unusedVariables false
attribute [local simp] evF evC runReg runOps stepOp stepEff evOp applyEff lk up Opd.ev fresh Sx.isAgg binEv binInt setRow Sx.bind resAll resEv leave Sx.tidy packRes cget csub cput ccat crep fillEv partsEv clen Sx.cells isScalar toRow ptrs ptrsL ren renL reach reachFuel currOf newest nodupB srcOf toOf renRow getRow idxEv boundEv eqAgg eqCells eqCell BT.isInt mkAgg allInts slLen slFirst slCells callAt backOf toMini binShift bitsOf unEv mx2 mxL runRec pairsOk disjB touch touchOp
set_option linter.unusedSimpArgs false
theorem awake_ok : evF tab 5 10 [] [] = some (.bool true, [], []) := by kernel_rfl
def powOk (j : Int) : Bool :=
  match evF tab 4 24 [.int .i64 j] [], binShift .shl .i64 1 j, binShift .shl .i64 (-1) j with
  | some (.int .i64 P, [], []), some (.int .i64 Q), some (.int .i64 R) => decide (1 ≤ P) && (decide (P ≤ 4611686018427387904) && (decide (Q = P) && decide (R = -P)))
  | _, _, _ => false
theorem of_powOk {j : Int} (h : powOk j = true) : ∃ P : Int, 1 ≤ P ∧ P ≤ 4611686018427387904 ∧ evF tab 4 24 [.int .i64 j] [] = some (.int .i64 P, [], []) ∧ binShift .shl .i64 1 j = some (.int .i64 P) ∧ binShift .shl .i64 (-1) j = some (.int .i64 (-P)) := by
  unfold powOk at h
  split at h
  · rename_i P Q R e1 e2 e3
    simp only [Bool.and_eq_true, decide_eq_true_eq] at h
    obtain ⟨h1, h2, rfl, rfl⟩ := h
    exact ⟨Q, h1, h2, e1, e2, e3⟩
  · cases h
theorem pow_in_0  : ((List.range 3).all fun i => (fun j => powOk j) (0 + i)) = true := by kernel_rfl
theorem pow_in_3  : ((List.range 3).all fun i => (fun j => powOk j) (3 + i)) = true := by kernel_rfl
theorem pow_in_6  : ((List.range 3).all fun i => (fun j => powOk j) (6 + i)) = true := by kernel_rfl
theorem pow_in_9  : ((List.range 3).all fun i => (fun j => powOk j) (9 + i)) = true := by kernel_rfl
theorem pow_in_12  : ((List.range 3).all fun i => (fun j => powOk j) (12 + i)) = true := by kernel_rfl
theorem pow_in_15  : ((List.range 3).all fun i => (fun j => powOk j) (15 + i)) = true := by kernel_rfl
theorem pow_in_18  : ((List.range 3).all fun i => (fun j => powOk j) (18 + i)) = true := by kernel_rfl
theorem pow_in_21  : ((List.range 3).all fun i => (fun j => powOk j) (21 + i)) = true := by kernel_rfl
theorem pow_in_24  : ((List.range 3).all fun i => (fun j => powOk j) (24 + i)) = true := by kernel_rfl
theorem pow_in_27  : ((List.range 3).all fun i => (fun j => powOk j) (27 + i)) = true := by kernel_rfl
theorem pow_in_30  : ((List.range 3).all fun i => (fun j => powOk j) (30 + i)) = true := by kernel_rfl
theorem pow_in_33  : ((List.range 3).all fun i => (fun j => powOk j) (33 + i)) = true := by kernel_rfl
theorem pow_in_36  : ((List.range 3).all fun i => (fun j => powOk j) (36 + i)) = true := by kernel_rfl
theorem pow_in_39  : ((List.range 3).all fun i => (fun j => powOk j) (39 + i)) = true := by kernel_rfl
theorem pow_in_42  : ((List.range 3).all fun i => (fun j => powOk j) (42 + i)) = true := by kernel_rfl
theorem pow_in_45  : ((List.range 3).all fun i => (fun j => powOk j) (45 + i)) = true := by kernel_rfl
theorem pow_in_48  : ((List.range 3).all fun i => (fun j => powOk j) (48 + i)) = true := by kernel_rfl
theorem pow_in_51  : ((List.range 3).all fun i => (fun j => powOk j) (51 + i)) = true := by kernel_rfl
theorem pow_in_54  : ((List.range 3).all fun i => (fun j => powOk j) (54 + i)) = true := by kernel_rfl
theorem pow_in_57  : ((List.range 3).all fun i => (fun j => powOk j) (57 + i)) = true := by kernel_rfl
theorem pow_in_60  : ((List.range 3).all fun i => (fun j => powOk j) (60 + i)) = true := by kernel_rfl
theorem pow_in  (k : Int) (h1 : 0 ≤ k) (h2 : k < 63) : (fun j => powOk j) k = true := by
  by_cases h0 : k < 3
  · exact all_range (p := (fun j => powOk j)) (pow_in_0) (by omega) (by omega)
  by_cases h3 : k < 6
  · exact all_range (p := (fun j => powOk j)) (pow_in_3) (by omega) (by omega)
  by_cases h6 : k < 9
  · exact all_range (p := (fun j => powOk j)) (pow_in_6) (by omega) (by omega)
  by_cases h9 : k < 12
  · exact all_range (p := (fun j => powOk j)) (pow_in_9) (by omega) (by omega)
  by_cases h12 : k < 15
  · exact all_range (p := (fun j => powOk j)) (pow_in_12) (by omega) (by omega)
  by_cases h15 : k < 18
  · exact all_range (p := (fun j => powOk j)) (pow_in_15) (by omega) (by omega)
  by_cases h18 : k < 21
  · exact all_range (p := (fun j => powOk j)) (pow_in_18) (by omega) (by omega)
  by_cases h21 : k < 24
  · exact all_range (p := (fun j => powOk j)) (pow_in_21) (by omega) (by omega)
  by_cases h24 : k < 27
  · exact all_range (p := (fun j => powOk j)) (pow_in_24) (by omega) (by omega)
  by_cases h27 : k < 30
  · exact all_range (p := (fun j => powOk j)) (pow_in_27) (by omega) (by omega)
  by_cases h30 : k < 33
  · exact all_range (p := (fun j => powOk j)) (pow_in_30) (by omega) (by omega)
  by_cases h33 : k < 36
  · exact all_range (p := (fun j => powOk j)) (pow_in_33) (by omega) (by omega)
  by_cases h36 : k < 39
  · exact all_range (p := (fun j => powOk j)) (pow_in_36) (by omega) (by omega)
  by_cases h39 : k < 42
  · exact all_range (p := (fun j => powOk j)) (pow_in_39) (by omega) (by omega)
  by_cases h42 : k < 45
  · exact all_range (p := (fun j => powOk j)) (pow_in_42) (by omega) (by omega)
  by_cases h45 : k < 48
  · exact all_range (p := (fun j => powOk j)) (pow_in_45) (by omega) (by omega)
  by_cases h48 : k < 51
  · exact all_range (p := (fun j => powOk j)) (pow_in_48) (by omega) (by omega)
  by_cases h51 : k < 54
  · exact all_range (p := (fun j => powOk j)) (pow_in_51) (by omega) (by omega)
  by_cases h54 : k < 57
  · exact all_range (p := (fun j => powOk j)) (pow_in_54) (by omega) (by omega)
  by_cases h57 : k < 60
  · exact all_range (p := (fun j => powOk j)) (pow_in_57) (by omega) (by omega)
  by_cases h60 : k < 63
  · exact all_range (p := (fun j => powOk j)) (pow_in_60) (by omega) (by omega)
  omega
theorem fits_low (v k : Int) (h : k ≤ 0) : evF tab 5 8 [.int .i64 v, .int .i64 k] [] = some (.bool (v == 0), [], []) ∧ evF tab 5 9 [.int .i64 v, .int .i64 k] [] = some (.bool (v == 0), [], []) := by
  constructor
  · simp [t8, sf8, r8_0, r8_1, r8_2, h]
  · simp [t9, sf9, r9_0, r9_1, r9_2, h]
theorem fits_high (v k : Int) (h : 63 < k) : evF tab 5 8 [.int .i64 v, .int .i64 k] [] = some (.bool true, [], []) ∧ evF tab 5 9 [.int .i64 v, .int .i64 k] [] = some (.bool true, [], []) := by
  have h' : ¬ k ≤ 0 := by omega
  constructor
  · simp [t8, sf8, r8_0, r8_1, r8_3, h, h']
  · simp [t9, sf9, r9_0, r9_1, r9_3, r9_4, h, h']
theorem fits_mid (v k : Int) (h1 : 1 ≤ k) (h2 : k ≤ 63) (hv : -9223372036854775808 ≤ v ∧ v ≤ 9223372036854775807) : ∃ b : Bool, evF tab 5 8 [.int .i64 v, .int .i64 k] [] = some (.bool b, [], []) ∧ evF tab 5 9 [.int .i64 v, .int .i64 k] [] = some (.bool b, [], []) := by
  obtain ⟨P, p1, p2, e, b1, b2⟩ := of_powOk (pow_in (k - 1) (by omega) (by omega))
  have h' : ¬ k ≤ 0 := by omega
  have h'' : ¬ 63 < k := by omega
  have w1 : IntKind.i64.wrap (k - 1) = k - 1 := IntWalk.i64_in _ (by omega)
  have w2 : IntKind.i64.wrap (-P) = -P := IntWalk.i64_in _ (by omega)
  have w3 : IntKind.i64.wrap (P - 1) = P - 1 := IntWalk.i64_in _ (by omega)
  have w4 : IntKind.i64.wrap (0 - P) = -P := by rw [IntWalk.i64_in _ (by omega)]; omega
  unfold evF
  generalize evF tab 4 = C at *
  by_cases g1 : -P ≤ v
  · by_cases g2 : v < P
    · have g3 : v ≤ P - 1 := by omega
      refine ⟨true, ?_, ?_⟩
      · simp [t8, sf8, r8_0, r8_1, r8_3, h', h'', w1, b1, b2, g1, g2, -binShift]
      · simp [t9, sf9, r9_0, r9_1, r9_3, r9_5, r9_6, h', h'', w1, w2, w3, w4, e, g1, g3]
    · have g3 : ¬ v ≤ P - 1 := by omega
      refine ⟨false, ?_, ?_⟩
      · simp [t8, sf8, r8_0, r8_1, r8_3, h', h'', w1, b1, b2, g1, g2, -binShift]
      · simp [t9, sf9, r9_0, r9_1, r9_3, r9_5, r9_6, h', h'', w1, w2, w3, w4, e, g1, g3]
  · refine ⟨false, ?_, ?_⟩
    · simp [t8, sf8, r8_0, r8_1, r8_3, h', h'', w1, b1, b2, g1, -binShift]
    · simp [t9, sf9, r9_0, r9_1, r9_3, r9_5, r9_6, h', h'', w1, w2, w3, w4, e, g1]
theorem fits_both (v k : Int) (hv : -9223372036854775808 ≤ v ∧ v ≤ 9223372036854775807) : ∃ b : Bool, evF tab 5 8 [.int .i64 v, .int .i64 k] [] = some (.bool b, [], []) ∧ evF tab 5 9 [.int .i64 v, .int .i64 k] [] = some (.bool b, [], []) := by
  by_cases h1 : k ≤ 0
  · exact ⟨_, fits_low v k h1⟩
  · by_cases h2 : 63 < k
    · exact ⟨_, fits_high v k h2⟩
    · exact fits_mid v k (by omega) (by omega) hv
theorem fits_law (v k : Int) (wv : (Lit.int .i64 v).wf = true) : evF tab 6 3 [.int .i64 v, .int .i64 k] [] = some (.bool true, [], []) := by
  obtain ⟨b, e1, e2⟩ := fits_both v k (wf64 wv)
  have a := awake_ok
  unfold evF
  generalize evF tab 5 = C at *
  simp [t3, sf3, r3_0, r3_1, e1, e2, a]
end Go.Proofs.Ytkahlinndcnjiaa
