/-
  The law of a swing's pitch, by the abstract machine. Conditions: none.
-/
import Derived.Test.YtkgcilalmhejcaaSwing
namespace Go.Proofs.Ytkgcilalmhejcaa
open Go Go.Sx
set_option maxRecDepth 100000
set_option linter.unusedVariables false
attribute [local simp] evF evC runReg runOps stepOp stepEff evOp applyEff lk up Opd.ev fresh Sx.isAgg binEv binInt setRow Sx.bind resAll resEv leave Sx.tidy packRes cget csub cput ccat crep fillEv partsEv clen Sx.cells isScalar toRow ptrs ptrsL ren renL reach reachFuel currOf newest nodupB srcOf toOf renRow getRow idxEv boundEv eqAgg eqCells eqCell BT.isInt mkAgg allInts slLen slFirst slCells callAt backOf toMini binShift bitsOf unEv mx2 mxL runRec pairsOk disjB touch touchOp
set_option linter.unusedSimpArgs false
def pitY (p d c : Int) : Int := p / 8 * (c * d)
def pitR (p d c : Int) : Int := pitY p d c / 65536 + pitY p d c / 32768 % 2
theorem box_any {a b A B : Int} (ha : 0 ≤ a) (hA : a ≤ A) (hb : -B ≤ b) (hB : b ≤ B) : -(A * B) ≤ a * b ∧ a * b ≤ A * B := by
  have h1 := mul_box (a := a) (b := B - b) (A := A) (B := 2 * B) ha hA (by omega) (by omega)
  have h2 : a * (B - b) = a * B - a * b := Int.mul_sub a B b
  have h3 : a * B ≤ A * B := Int.mul_le_mul_of_nonneg_right hA (by omega)
  have h4 := mul_box (a := a) (b := B + b) (A := A) (B := 2 * B) ha hA (by omega) (by omega)
  have h5 : a * (B + b) = a * B + a * b := Int.mul_add a B b
  by_cases hb0 : 0 ≤ b
  · have := mul_box ha hA hb0 hB
    omega
  · have h6 := mul_box (a := a) (b := -b) (A := A) (B := B) ha hA (by omega) (by omega)
    rw [Int.mul_neg] at h6
    omega
theorem pitY_within {p d c : Int} (hp : 0 ≤ p ∧ p ≤ 34359738368) (hd : 0 ≤ d ∧ d ≤ 256) (hc : -256 ≤ c ∧ c ≤ 256) : (-65536 ≤ c * d ∧ c * d ≤ 65536) ∧ (-281474976710656 ≤ pitY p d c ∧ pitY p d c ≤ 281474976710656) := by
  have h1 := box_any (a := d) (b := c) (A := 256) (B := 256) (by omega) (by omega) (by omega) (by omega)
  rw [Int.mul_comm d c] at h1
  have h2 := box_any (a := p / 8) (b := c * d) (A := 4294967296) (B := 65536) (by omega) (by omega) (by omega) (by omega)
  refine ⟨by omega, ?_⟩
  unfold pitY
  omega
theorem pitR_within {p d c : Int} (hp : 0 ≤ p ∧ p ≤ 34359738368) (hd : 0 ≤ d ∧ d ≤ 256) (hc : -256 ≤ c ∧ c ≤ 256) : -4294967297 ≤ pitR p d c ∧ pitR p d c ≤ 4294967297 := by
  have := (pitY_within hp hd hc).2
  unfold pitR
  omega
theorem pitch_out (n : Nat) (v d x : Int) (h : v < 0 ∨ 34359738368 < v ∨ d < 0 ∨ 256 < d) : evF tab (n + 1) 11 [.int .i64 v, .int .i64 d, .int .i64 x] [] = some (.int .i64 0, [], []) := by
  by_cases h1 : v < 0
  · simp [t11, sf11, r11_0, r11_1, r11_2, h1]
  · by_cases h2 : 34359738368 < v
    · simp [t11, sf11, r11_0, r11_1, r11_2, h1, h2]
    · by_cases h3 : d < 0
      · simp [t11, sf11, r11_0, r11_1, r11_2, h1, h2, h3]
      · have h4 : 256 < d := by omega
        simp [t11, sf11, r11_0, r11_1, r11_2, h1, h2, h3, h4]
theorem pitch_in (n : Nat) (v d x : Int) (hv : 0 ≤ v ∧ v ≤ 34359738368) (hd : 0 ≤ d ∧ d ≤ 256) : evF tab (n + 2) 11 [.int .i64 v, .int .i64 d, .int .i64 x] [] = some (.int .i64 (clampV (v + pitR v d (clampV x (-256) 256)) 0 34359738368), [], []) := by
  have hc := clamp_within x (-256) 256 (by omega)
  have c1 := clamp_ok n x (-256) 256 (by omega)
  revert c1 hc
  generalize clampV x (-256) 256 = c
  intro hc c1
  have hy := pitY_within hv hd hc
  have hr := pitR_within hv hd hc
  have rd := round16 n (pitY v d c) (by omega)
  have c2 := clamp_ok n (v + pitR v d c) 0 34359738368 (by omega)
  have h1 : ¬ v < 0 := by omega
  have h2 : ¬ 34359738368 < v := by omega
  have h3 : ¬ d < 0 := by omega
  have h4 : ¬ 256 < d := by omega
  have f1 : v.fdiv 8 = v / 8 := Int.fdiv_eq_ediv_of_nonneg _ (by omega)
  have e2 : IntKind.i64.wrap (c * d) = c * d := IntWalk.i64_in _ (by omega)
  have e3 : IntKind.i64.wrap (v / 8 * (c * d)) = pitY v d c := IntWalk.i64_in (pitY v d c) (by omega)
  have e4 : IntKind.i64.wrap (v + pitR v d c) = v + pitR v d c := IntWalk.i64_in _ (by omega)
  change _ = some (EV.int .i64 (pitR v d c), _, _) at rd
  unfold evF
  generalize evF tab (n + 1) = C at *
  simp [t11, sf11, r11_0, r11_1, r11_3, r11_4, h1, h2, h3, h4, c1, c2, rd, f1, e2, e3, e4, IntKind.bits]
theorem pitches (v d x : Int) : evF tab 6 4 [.int .i64 v, .int .i64 d, .int .i64 x] [] = some (.bool true, [], []) := by
  have a := awake_ok
  by_cases h : v < 0 ∨ 34359738368 < v ∨ d < 0 ∨ 256 < d
  · have e := pitch_out 4 v d x h
    unfold evF
    generalize evF tab 5 = C at *
    by_cases h1 : v < 0
    · simp [t4, sf4, r4_0, r4_1, r4_2, r4_3, h1, e, a]
    · by_cases h2 : 34359738368 < v
      · simp [t4, sf4, r4_0, r4_1, r4_2, r4_3, h1, h2, e, a]
      · by_cases h3 : d < 0
        · simp [t4, sf4, r4_0, r4_1, r4_2, r4_3, h1, h2, h3, e, a]
        · have h4 : 256 < d := by omega
          simp [t4, sf4, r4_0, r4_1, r4_2, r4_3, h1, h2, h3, h4, e, a]
  · have hv : 0 ≤ v ∧ v ≤ 34359738368 := by omega
    have hd : 0 ≤ d ∧ d ≤ 256 := by omega
    have e := pitch_in 3 v d x hv hd
    have hc := clamp_within x (-256) 256 (by omega)
    have c1 := hold_ok 4 x
    revert e c1 hc
    generalize clampV x (-256) 256 = c
    intro e hc c1
    have hy := pitY_within hv hd hc
    have hr := pitR_within hv hd hc
    have rd := round16 4 (pitY v d c) (by omega)
    change _ = some (EV.int .i64 (pitR v d c), _, _) at rd
    have q1 : IntKind.i64.wrap (v.tdiv 8) = v / 8 := IntWalk.i64_quo _ _ (by omega)
    have b1 := box_any (a := v / 8) (b := c) (A := 4294967296) (B := 256) (by omega) (by omega) (by omega) (by omega)
    have e2 : IntKind.i64.wrap (v / 8 * c) = v / 8 * c := IntWalk.i64_in _ (by omega)
    have e0 : v / 8 * c * d = pitY v d c := by rw [pitY, Int.mul_assoc]
    have e3 : IntKind.i64.wrap (pitY v d c) = pitY v d c := IntWalk.i64_in (pitY v d c) (by omega)
    have e4 : IntKind.i64.wrap (v + pitR v d c) = v + pitR v d c := IntWalk.i64_in _ (by omega)
    have h1 : ¬ v < 0 := by omega
    have h2 : ¬ 34359738368 < v := by omega
    have h3 : ¬ d < 0 := by omega
    have h4 : ¬ 256 < d := by omega
    have hz : d = 0 → pitR v d c = 0 := by
      intro hd0
      simp [pitR, pitY, hd0]
    generalize pitR v d c = r at *
    unfold evF
    generalize evF tab 5 = C at *
    by_cases g3 : 0 < d
    · by_cases g1 : v + r < 0
      · have g2 : clampV (v + r) 0 34359738368 = 0 := by unfold clampV; rw [if_pos g1]
        rw [g2] at e
        simp [t4, sf4, r4_0, r4_1, r4_2, r4_4, r4_5, r4_6, r4_7, r4_9, h1, h2, h3, h4, e, a, c1, rd, q1, e0, e2, e3, e4, g1, g3]
      · by_cases g4 : 34359738368 < v + r
        · have g2 : clampV (v + r) 0 34359738368 = 34359738368 := by
            unfold clampV
            rw [if_neg g1, if_pos g4]
          rw [g2] at e
          simp [t4, sf4, r4_0, r4_1, r4_2, r4_4, r4_5, r4_7, r4_8, r4_9, h1, h2, h3, h4, e, a, c1, rd, q1, e0, e2, e3, e4, g1, g3, g4]
        · have g2 : clampV (v + r) 0 34359738368 = v + r := by
            unfold clampV
            rw [if_neg g1, if_neg g4]
          rw [g2] at e
          simp [t4, sf4, r4_0, r4_1, r4_2, r4_4, r4_5, r4_7, r4_9, h1, h2, h3, h4, e, a, c1, rd, q1, e0, e2, e3, e4, g1, g3, g4]
    · have g5 : r = 0 := hz (by omega)
      subst g5
      have g2 : clampV v 0 34359738368 = v := by
        unfold clampV
        rw [if_neg h1, if_neg h2]
      rw [Int.add_zero] at e e4
      rw [g2] at e
      simp [t4, sf4, r4_0, r4_1, r4_2, r4_4, r4_5, r4_7, r4_9, h1, h2, h3, h4, e, a, c1, rd, q1, e0, e2, e3, e4, g3]
end Go.Proofs.Ytkgcilalmhejcaa
