/-
  The law of a swing's loudness, by the abstract machine. Conditions: none.
-/
import Derived.Test.YtkgcilalmhejcaaNum
namespace Go.Proofs.Ytkgcilalmhejcaa
open Go Go.Sx
set_option maxRecDepth 100000
set_option linter.unusedVariables false
attribute [local simp] evF evC runReg runOps stepOp stepEff evOp applyEff lk up Opd.ev fresh Sx.isAgg binEv binInt setRow Sx.bind resAll resEv leave Sx.tidy packRes cget csub cput ccat crep fillEv partsEv clen Sx.cells isScalar toRow ptrs ptrsL ren renL reach reachFuel currOf newest nodupB srcOf toOf renRow getRow idxEv boundEv eqAgg eqCells eqCell BT.isInt mkAgg allInts slLen slFirst slCells callAt backOf toMini binShift bitsOf unEv mx2 mxL runRec pairsOk disjB touch touchOp
set_option linter.unusedSimpArgs false
theorem awake_ok : evF tab 5 8 [] [] = some (.bool true, [], []) := by kernel_rfl
theorem clamp_within (x lo hi : Int) (h : lo ≤ hi) : lo ≤ clampV x lo hi ∧ clampV x lo hi ≤ hi := by
  unfold clampV
  split
  · omega
  · split <;> omega
theorem hold_ok (n : Nat) (x : Int) : evF tab (n + 1) 10 [.int .i64 x] [] = some (.int .i64 (clampV x (-256) 256), [], []) := by
  by_cases h1 : x < -256
  · have h2 : ¬ 256 < x := by omega
    have h3 : ¬ 257 ≤ x := by omega
    simp [t10, sf10, r10_0, r10_1, r10_3, r10_4, clampV, h1, h2, h3]
  · by_cases h2 : 256 < x
    · have h3 : 257 ≤ x := by omega
      simp [t10, sf10, r10_0, r10_1, r10_2, clampV, h1, h2, h3]
    · have h3 : ¬ 257 ≤ x := by omega
      simp [t10, sf10, r10_0, r10_1, r10_3, r10_5, clampV, h1, h2, h3]
def volY (v d c : Int) : Int := v * ((c - 256) * d)
def volR (v d c : Int) : Int := volY v d c / 131072 + volY v d c / 65536 % 2
theorem volY_within {v d c : Int} (hv : 0 ≤ v ∧ v ≤ 256) (hd : 0 ≤ d ∧ d ≤ 256) (hc : -256 ≤ c ∧ c ≤ 256) : (-131072 ≤ (c - 256) * d ∧ (c - 256) * d ≤ 0) ∧ (-33554432 ≤ volY v d c ∧ volY v d c ≤ 0) := by
  have e : (c - 256) * d = - ((256 - c) * d) := by rw [← Int.neg_mul]; congr 1; omega
  have h1 := mul_box (a := 256 - c) (b := d) (A := 512) (B := 256) (by omega) (by omega) (by omega) (by omega)
  have h2 := mul_box (a := v) (b := (256 - c) * d) (A := 256) (B := 131072) (by omega) (by omega) (by omega) (by omega)
  have e2 : volY v d c = - (v * ((256 - c) * d)) := by rw [volY, e, Int.mul_neg]
  refine ⟨?_, ?_⟩
  · rw [e]; omega
  · rw [e2]; omega
theorem volR_within {v d c : Int} (hv : 0 ≤ v ∧ v ≤ 256) (hd : 0 ≤ d ∧ d ≤ 256) (hc : -256 ≤ c ∧ c ≤ 256) : -512 ≤ volR v d c ∧ volR v d c ≤ 0 := by
  have := (volY_within hv hd hc).2
  unfold volR
  omega
theorem volume_out (n : Nat) (v d x : Int) (h : v < 0 ∨ 256 < v ∨ d < 0 ∨ 256 < d) : evF tab (n + 1) 7 [.int .i64 v, .int .i64 d, .int .i64 x] [] = some (.int .i64 0, [], []) := by
  by_cases h1 : v < 0
  · simp [t7, sf7, r7_0, r7_1, r7_2, h1]
  · by_cases h2 : 256 < v
    · simp [t7, sf7, r7_0, r7_1, r7_2, h1, h2]
    · by_cases h3 : d < 0
      · simp [t7, sf7, r7_0, r7_1, r7_2, h1, h2, h3]
      · have h4 : 256 < d := by omega
        simp [t7, sf7, r7_0, r7_1, r7_2, h1, h2, h3, h4]
theorem volume_in (n : Nat) (v d x : Int) (hv : 0 ≤ v ∧ v ≤ 256) (hd : 0 ≤ d ∧ d ≤ 256) : evF tab (n + 2) 7 [.int .i64 v, .int .i64 d, .int .i64 x] [] = some (.int .i64 (clampV (v + volR v d (clampV x (-256) 256)) 0 256), [], []) := by
  have hc := clamp_within x (-256) 256 (by omega)
  have c1 := clamp_ok n x (-256) 256 (by omega)
  revert c1 hc
  generalize clampV x (-256) 256 = c
  intro hc c1
  have hy := volY_within hv hd hc
  have hr := volR_within hv hd hc
  have rd := round17 n (volY v d c) (by omega)
  have c2 := clamp_ok n (v + volR v d c) 0 256 (by omega)
  have h1 : ¬ v < 0 := by omega
  have h2 : ¬ 256 < v := by omega
  have h3 : ¬ d < 0 := by omega
  have h4 : ¬ 256 < d := by omega
  have e1 : IntKind.i64.wrap (c - 256) = c - 256 := IntWalk.i64_in _ (by omega)
  have e2 : IntKind.i64.wrap ((c - 256) * d) = (c - 256) * d := IntWalk.i64_in _ (by omega)
  have e3 : IntKind.i64.wrap (v * ((c - 256) * d)) = volY v d c := IntWalk.i64_in (volY v d c) (by omega)
  have e4 : IntKind.i64.wrap (v + volR v d c) = v + volR v d c := IntWalk.i64_in _ (by omega)
  change _ = some (EV.int .i64 (volR v d c), _, _) at rd
  unfold evF
  generalize evF tab (n + 1) = C at *
  simp [t7, sf7, r7_0, r7_1, r7_3, r7_4, h1, h2, h3, h4, c1, c2, rd, e1, e2, e3, e4]
theorem volumes (v d x : Int) (wv : (Lit.int .i64 v).wf = true) : evF tab 6 3 [.int .i64 v, .int .i64 d, .int .i64 x] [] = some (.bool true, [], []) := by
  have a := awake_ok
  by_cases h : v < 0 ∨ 256 < v ∨ d < 0 ∨ 256 < d
  · have e := volume_out 4 v d x h
    unfold evF
    generalize evF tab 5 = C at *
    by_cases h1 : v < 0
    · simp [t3, sf3, r3_0, r3_1, r3_2, r3_3, h1, e, a]
    · by_cases h2 : 256 < v
      · simp [t3, sf3, r3_0, r3_1, r3_2, r3_3, h1, h2, e, a]
      · by_cases h3 : d < 0
        · simp [t3, sf3, r3_0, r3_1, r3_2, r3_3, h1, h2, h3, e, a]
        · have h4 : 256 < d := by omega
          simp [t3, sf3, r3_0, r3_1, r3_2, r3_3, h1, h2, h3, h4, e, a]
  · have hv : 0 ≤ v ∧ v ≤ 256 := by omega
    have hd : 0 ≤ d ∧ d ≤ 256 := by omega
    have e := volume_in 3 v d x hv hd
    have hc := clamp_within x (-256) 256 (by omega)
    have c1 := hold_ok 4 x
    revert e c1 hc
    generalize clampV x (-256) 256 = c
    intro e hc c1
    have hy := volY_within hv hd hc
    have hr := volR_within hv hd hc
    have rd := round17 4 (volY v d c) (by omega)
    change _ = some (EV.int .i64 (volR v d c), _, _) at rd
    have e0 : v * (c - 256) * d = volY v d c := by rw [volY, Int.mul_assoc]
    have e1 : IntKind.i64.wrap (c - 256) = c - 256 := IntWalk.i64_in _ (by omega)
    have b1 := mul_box (a := v) (b := 256 - c) (A := 256) (B := 512) (by omega) (by omega) (by omega) (by omega)
    have e2 : IntKind.i64.wrap (v * (c - 256)) = v * (c - 256) := IntWalk.i64_in _ (by rw [show c - 256 = - (256 - c) by omega, Int.mul_neg]; omega)
    have e3 : IntKind.i64.wrap (volY v d c) = volY v d c := IntWalk.i64_in (volY v d c) (by omega)
    have e4 : IntKind.i64.wrap (v + volR v d c) = v + volR v d c := IntWalk.i64_in _ (by omega)
    have h1 : ¬ v < 0 := by omega
    have h2 : ¬ 256 < v := by omega
    have h3 : ¬ d < 0 := by omega
    have h4 : ¬ 256 < d := by omega
    have hz : d = 0 → volR v d c = 0 := by
      intro hd0
      simp [volR, volY, hd0]
    generalize volR v d c = r at *
    unfold evF
    generalize evF tab 5 = C at *
    by_cases g1 : v + r < 0
    · have g2 : clampV (v + r) 0 256 = 0 := by unfold clampV; rw [if_pos g1]
      rw [g2] at e
      by_cases g3 : 0 < d
      · simp [t3, sf3, r3_0, r3_1, r3_2, r3_4, r3_5, r3_6, r3_7, h1, h2, h3, h4, e, a, c1, rd, e0, e1, e2, e3, e4, g1, g3, hv.1]
      · have := hz (by omega)
        omega
    · have g2 : clampV (v + r) 0 256 = v + r := by
        unfold clampV
        rw [if_neg g1, if_neg (by omega)]
      rw [g2] at e
      have g4 : v + r ≤ v := by omega
      by_cases g3 : 0 < d
      · simp [t3, sf3, r3_0, r3_1, r3_2, r3_4, r3_5, r3_7, h1, h2, h3, h4, e, a, c1, rd, e0, e1, e2, e3, e4, g1, g3, g4, hr.2]
      · have g5 : r = 0 := hz (by omega)
        subst g5
        rw [Int.add_zero] at e e4
        simp [t3, sf3, r3_0, r3_1, r3_2, r3_4, r3_5, r3_7, h1, h2, h3, h4, e, a, c1, rd, e0, e1, e2, e3, e4, g3]
end Go.Proofs.Ytkgcilalmhejcaa
