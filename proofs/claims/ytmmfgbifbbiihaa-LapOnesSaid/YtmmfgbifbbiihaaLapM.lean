/-
  A block's turns can be taken back, and a place's gain. Conditions: none.
-/
import Derived.Test.YtmmfgbifbbiihaaNetG
import Derived.Test.YtmmfgbifbbiihaaLtab
import Derived.Test.YtmmfgbifbbiihaaSxS
import Derived.KernelRfl
namespace Go.Proofs.Ytmmfgbifbbiihaa
open Go Go.Sx
set_option maxRecDepth 100000
set_option linter.unusedVariables false
def TS : List Int := [512, 1023, 1536, 3045, 2560, 4998, 3584, 6841, 4608, 8540, 5632, 10074, 6656, 11426, 7680, 12593]
def In64 (v : Int) : Prop := -9223372036854775808 ≤ v ∧ v ≤ 9223372036854775807
theorem w64_in (x : Int) : In64 (w64 x) := by
  unfold In64 w64
  rw [IntKind.wrap_i64]
  omega
theorem w64_id {x : Int} (h : In64 x) : w64 x = x := wrap64 h.1 h.2
theorem add_sub {x c : Int} (h : In64 x) : w64 (w64 (x + c) - c) = x := by
  unfold In64 at h
  unfold w64
  rw [IntKind.wrap_i64, IntKind.wrap_i64]
  omega
theorem sub_add {x c : Int} (h : In64 x) : w64 (w64 (x - c) + c) = x := by
  unfold In64 at h
  unfold w64
  rw [IntKind.wrap_i64, IntKind.wrap_i64]
  omega
theorem back_turn (p u : Int) {x y : Int} (hx : In64 x) (hy : In64 y) : backV p u (turnV p u x y).1 (turnV p u x y).2 = (x, y) := by
  unfold backV turnV
  simp only
  rw [add_sub (w64_in _), sub_add hy, add_sub hx]
theorem turn_in (p u x y : Int) : In64 (turnV p u x y).1 ∧ In64 (turnV p u x y).2 := ⟨w64_in _, w64_in _⟩
def All64 (b : List Int) : Prop := ∀ k, In64 (b.getD k 0)
theorem zero_in : In64 0 := by unfold In64; omega
def rdV (tv : Int → Int → Int → Int → Int × Int) (r : Nat) (b : List Int) : List Int := (preP r 16).foldl (atV tv TS r) b
theorem rd_0 (tv : Int → Int → Int → Int → Int × Int) (b0 b1 b2 b3 b4 b5 b6 b7 b8 b9 b10 b11 b12 b13 b14 b15 : Int) : rdV tv 0 [b0, b1, b2, b3, b4, b5, b6, b7, b8, b9, b10, b11, b12, b13, b14, b15] = [(tv 512 1023 b0 b1).1, (tv 512 1023 b0 b1).2, (tv 6656 11426 b2 b3).1, (tv 6656 11426 b2 b3).2, (tv 4608 8540 b4 b5).1, (tv 4608 8540 b4 b5).2, (tv 2560 4998 b6 b7).1, (tv 2560 4998 b6 b7).2, (tv 512 1023 b8 b9).1, (tv 512 1023 b8 b9).2, (tv 6656 11426 b10 b11).1, (tv 6656 11426 b10 b11).2, (tv 4608 8540 b12 b13).1, (tv 4608 8540 b12 b13).2, (tv 2560 4998 b14 b15).1, (tv 2560 4998 b14 b15).2] := by kernel_rfl
theorem ri_0 (b : List Int) (hb : b.length = 16) (h : All64 b) : rdV backV 0 (rdV turnV 0 b) = b ∧ (rdV turnV 0 b).length = 16 ∧ All64 (rdV turnV 0 b) := by
  obtain ⟨b0, b1, b2, b3, b4, b5, b6, b7, b8, b9, b10, b11, b12, b13, b14, b15, rfl⟩ := len16 hb
  rw [rd_0 turnV]
  refine ⟨?_, rfl, fun k => ?_⟩
  · rw [rd_0 backV, back_turn 512 1023 (x := b0) (y := b1) (h 0) (h 1), back_turn 6656 11426 (x := b2) (y := b3) (h 2) (h 3), back_turn 4608 8540 (x := b4) (y := b5) (h 4) (h 5), back_turn 2560 4998 (x := b6) (y := b7) (h 6) (h 7), back_turn 512 1023 (x := b8) (y := b9) (h 8) (h 9), back_turn 6656 11426 (x := b10) (y := b11) (h 10) (h 11), back_turn 4608 8540 (x := b12) (y := b13) (h 12) (h 13), back_turn 2560 4998 (x := b14) (y := b15) (h 14) (h 15)]
  · match k with
    | 0 => exact (turn_in _ _ _ _).1
    | 1 => exact (turn_in _ _ _ _).2
    | 2 => exact (turn_in _ _ _ _).1
    | 3 => exact (turn_in _ _ _ _).2
    | 4 => exact (turn_in _ _ _ _).1
    | 5 => exact (turn_in _ _ _ _).2
    | 6 => exact (turn_in _ _ _ _).1
    | 7 => exact (turn_in _ _ _ _).2
    | 8 => exact (turn_in _ _ _ _).1
    | 9 => exact (turn_in _ _ _ _).2
    | 10 => exact (turn_in _ _ _ _).1
    | 11 => exact (turn_in _ _ _ _).2
    | 12 => exact (turn_in _ _ _ _).1
    | 13 => exact (turn_in _ _ _ _).2
    | 14 => exact (turn_in _ _ _ _).1
    | 15 => exact (turn_in _ _ _ _).2
    | k + 16 => exact zero_in
theorem rd_1 (tv : Int → Int → Int → Int → Int × Int) (b0 b1 b2 b3 b4 b5 b6 b7 b8 b9 b10 b11 b12 b13 b14 b15 : Int) : rdV tv 1 [b0, b1, b2, b3, b4, b5, b6, b7, b8, b9, b10, b11, b12, b13, b14, b15] = [(tv 5632 10074 b0 b2).1, (tv 512 1023 b1 b3).1, (tv 5632 10074 b0 b2).2, (tv 512 1023 b1 b3).2, (tv 1536 3045 b4 b6).1, (tv 4608 8540 b5 b7).1, (tv 1536 3045 b4 b6).2, (tv 4608 8540 b5 b7).2, (tv 5632 10074 b8 b10).1, (tv 512 1023 b9 b11).1, (tv 5632 10074 b8 b10).2, (tv 512 1023 b9 b11).2, (tv 1536 3045 b12 b14).1, (tv 4608 8540 b13 b15).1, (tv 1536 3045 b12 b14).2, (tv 4608 8540 b13 b15).2] := by kernel_rfl
theorem ri_1 (b : List Int) (hb : b.length = 16) (h : All64 b) : rdV backV 1 (rdV turnV 1 b) = b ∧ (rdV turnV 1 b).length = 16 ∧ All64 (rdV turnV 1 b) := by
  obtain ⟨b0, b1, b2, b3, b4, b5, b6, b7, b8, b9, b10, b11, b12, b13, b14, b15, rfl⟩ := len16 hb
  rw [rd_1 turnV]
  refine ⟨?_, rfl, fun k => ?_⟩
  · rw [rd_1 backV, back_turn 5632 10074 (x := b0) (y := b2) (h 0) (h 2), back_turn 512 1023 (x := b1) (y := b3) (h 1) (h 3), back_turn 1536 3045 (x := b4) (y := b6) (h 4) (h 6), back_turn 4608 8540 (x := b5) (y := b7) (h 5) (h 7), back_turn 5632 10074 (x := b8) (y := b10) (h 8) (h 10), back_turn 512 1023 (x := b9) (y := b11) (h 9) (h 11), back_turn 1536 3045 (x := b12) (y := b14) (h 12) (h 14), back_turn 4608 8540 (x := b13) (y := b15) (h 13) (h 15)]
  · match k with
    | 0 => exact (turn_in _ _ _ _).1
    | 1 => exact (turn_in _ _ _ _).1
    | 2 => exact (turn_in _ _ _ _).2
    | 3 => exact (turn_in _ _ _ _).2
    | 4 => exact (turn_in _ _ _ _).1
    | 5 => exact (turn_in _ _ _ _).1
    | 6 => exact (turn_in _ _ _ _).2
    | 7 => exact (turn_in _ _ _ _).2
    | 8 => exact (turn_in _ _ _ _).1
    | 9 => exact (turn_in _ _ _ _).1
    | 10 => exact (turn_in _ _ _ _).2
    | 11 => exact (turn_in _ _ _ _).2
    | 12 => exact (turn_in _ _ _ _).1
    | 13 => exact (turn_in _ _ _ _).1
    | 14 => exact (turn_in _ _ _ _).2
    | 15 => exact (turn_in _ _ _ _).2
    | k + 16 => exact zero_in
theorem rd_2 (tv : Int → Int → Int → Int → Int × Int) (b0 b1 b2 b3 b4 b5 b6 b7 b8 b9 b10 b11 b12 b13 b14 b15 : Int) : rdV tv 2 [b0, b1, b2, b3, b4, b5, b6, b7, b8, b9, b10, b11, b12, b13, b14, b15] = [(tv 2560 4998 b0 b4).1, (tv 5632 10074 b1 b5).1, (tv 512 1023 b2 b6).1, (tv 3584 6841 b3 b7).1, (tv 2560 4998 b0 b4).2, (tv 5632 10074 b1 b5).2, (tv 512 1023 b2 b6).2, (tv 3584 6841 b3 b7).2, (tv 2560 4998 b8 b12).1, (tv 5632 10074 b9 b13).1, (tv 512 1023 b10 b14).1, (tv 3584 6841 b11 b15).1, (tv 2560 4998 b8 b12).2, (tv 5632 10074 b9 b13).2, (tv 512 1023 b10 b14).2, (tv 3584 6841 b11 b15).2] := by kernel_rfl
theorem ri_2 (b : List Int) (hb : b.length = 16) (h : All64 b) : rdV backV 2 (rdV turnV 2 b) = b ∧ (rdV turnV 2 b).length = 16 ∧ All64 (rdV turnV 2 b) := by
  obtain ⟨b0, b1, b2, b3, b4, b5, b6, b7, b8, b9, b10, b11, b12, b13, b14, b15, rfl⟩ := len16 hb
  rw [rd_2 turnV]
  refine ⟨?_, rfl, fun k => ?_⟩
  · rw [rd_2 backV, back_turn 2560 4998 (x := b0) (y := b4) (h 0) (h 4), back_turn 5632 10074 (x := b1) (y := b5) (h 1) (h 5), back_turn 512 1023 (x := b2) (y := b6) (h 2) (h 6), back_turn 3584 6841 (x := b3) (y := b7) (h 3) (h 7), back_turn 2560 4998 (x := b8) (y := b12) (h 8) (h 12), back_turn 5632 10074 (x := b9) (y := b13) (h 9) (h 13), back_turn 512 1023 (x := b10) (y := b14) (h 10) (h 14), back_turn 3584 6841 (x := b11) (y := b15) (h 11) (h 15)]
  · match k with
    | 0 => exact (turn_in _ _ _ _).1
    | 1 => exact (turn_in _ _ _ _).1
    | 2 => exact (turn_in _ _ _ _).1
    | 3 => exact (turn_in _ _ _ _).1
    | 4 => exact (turn_in _ _ _ _).2
    | 5 => exact (turn_in _ _ _ _).2
    | 6 => exact (turn_in _ _ _ _).2
    | 7 => exact (turn_in _ _ _ _).2
    | 8 => exact (turn_in _ _ _ _).1
    | 9 => exact (turn_in _ _ _ _).1
    | 10 => exact (turn_in _ _ _ _).1
    | 11 => exact (turn_in _ _ _ _).1
    | 12 => exact (turn_in _ _ _ _).2
    | 13 => exact (turn_in _ _ _ _).2
    | 14 => exact (turn_in _ _ _ _).2
    | 15 => exact (turn_in _ _ _ _).2
    | k + 16 => exact zero_in
theorem rd_3 (tv : Int → Int → Int → Int → Int × Int) (b0 b1 b2 b3 b4 b5 b6 b7 b8 b9 b10 b11 b12 b13 b14 b15 : Int) : rdV tv 3 [b0, b1, b2, b3, b4, b5, b6, b7, b8, b9, b10, b11, b12, b13, b14, b15] = [(tv 7680 12593 b0 b8).1, (tv 2560 4998 b1 b9).1, (tv 5632 10074 b2 b10).1, (tv 512 1023 b3 b11).1, (tv 3584 6841 b4 b12).1, (tv 6656 11426 b5 b13).1, (tv 1536 3045 b6 b14).1, (tv 4608 8540 b7 b15).1, (tv 7680 12593 b0 b8).2, (tv 2560 4998 b1 b9).2, (tv 5632 10074 b2 b10).2, (tv 512 1023 b3 b11).2, (tv 3584 6841 b4 b12).2, (tv 6656 11426 b5 b13).2, (tv 1536 3045 b6 b14).2, (tv 4608 8540 b7 b15).2] := by kernel_rfl
theorem ri_3 (b : List Int) (hb : b.length = 16) (h : All64 b) : rdV backV 3 (rdV turnV 3 b) = b ∧ (rdV turnV 3 b).length = 16 ∧ All64 (rdV turnV 3 b) := by
  obtain ⟨b0, b1, b2, b3, b4, b5, b6, b7, b8, b9, b10, b11, b12, b13, b14, b15, rfl⟩ := len16 hb
  rw [rd_3 turnV]
  refine ⟨?_, rfl, fun k => ?_⟩
  · rw [rd_3 backV, back_turn 7680 12593 (x := b0) (y := b8) (h 0) (h 8), back_turn 2560 4998 (x := b1) (y := b9) (h 1) (h 9), back_turn 5632 10074 (x := b2) (y := b10) (h 2) (h 10), back_turn 512 1023 (x := b3) (y := b11) (h 3) (h 11), back_turn 3584 6841 (x := b4) (y := b12) (h 4) (h 12), back_turn 6656 11426 (x := b5) (y := b13) (h 5) (h 13), back_turn 1536 3045 (x := b6) (y := b14) (h 6) (h 14), back_turn 4608 8540 (x := b7) (y := b15) (h 7) (h 15)]
  · match k with
    | 0 => exact (turn_in _ _ _ _).1
    | 1 => exact (turn_in _ _ _ _).1
    | 2 => exact (turn_in _ _ _ _).1
    | 3 => exact (turn_in _ _ _ _).1
    | 4 => exact (turn_in _ _ _ _).1
    | 5 => exact (turn_in _ _ _ _).1
    | 6 => exact (turn_in _ _ _ _).1
    | 7 => exact (turn_in _ _ _ _).1
    | 8 => exact (turn_in _ _ _ _).2
    | 9 => exact (turn_in _ _ _ _).2
    | 10 => exact (turn_in _ _ _ _).2
    | 11 => exact (turn_in _ _ _ _).2
    | 12 => exact (turn_in _ _ _ _).2
    | 13 => exact (turn_in _ _ _ _).2
    | 14 => exact (turn_in _ _ _ _).2
    | 15 => exact (turn_in _ _ _ _).2
    | k + 16 => exact zero_in
theorem rounds_cons (tv : Int → Int → Int → Int → Int × Int) (r : Nat) (rs : List Nat) (b : List Int) : roundsV tv TS (r :: rs) b = roundsV tv TS rs (rdV tv r b) := rfl
theorem rounds_nil (tv : Int → Int → Int → Int → Int × Int) (b : List Int) : roundsV tv TS [] b = b := rfl
theorem fwd_back (b : List Int) (hb : b.length = 16) (h : All64 b) : roundsV backV TS rsI (roundsV turnV TS rsF b) = b := by
  unfold rsF rsI
  rw [rounds_cons, rounds_cons, rounds_cons, rounds_cons, rounds_cons, rounds_cons, rounds_cons, rounds_cons, rounds_nil, rounds_nil]
  obtain ⟨e0, l0, a0⟩ := ri_0 b hb h
  obtain ⟨e1, l1, a1⟩ := ri_1 _ l0 a0
  obtain ⟨e2, l2, a2⟩ := ri_2 _ l1 a1
  obtain ⟨e3, l3, a3⟩ := ri_3 _ l2 a2
  rw [e3, e2, e1, e0]
theorem atV_len (tv : Int → Int → Int → Int → Int × Int) (ts : List Int) (r : Nat) (b : List Int) (i : Nat) : (atV tv ts r b i).length = b.length := by unfold atV; simp
theorem foldl_len {f : List Int → Nat → List Int} (h : ∀ b i, (f b i).length = b.length) : ∀ (l : List Nat) (b : List Int), (l.foldl f b).length = b.length
  | [], b => rfl
  | i :: l, b => (foldl_len h l (f b i)).trans (h b i)
theorem roundsV_len (tv : Int → Int → Int → Int → Int × Int) (ts : List Int) (rs : List Nat) (b : List Int) : (roundsV tv ts rs b).length = b.length := foldl_len (fun b r => foldl_len (atV_len tv ts r) _ b) rs b
/-! ### Gains -/
def upV (x g : Int) : Int := shlI .i64 x g
def rndV (a g : Int) : Int := if g = 0 then a else w64 (shrI .i64 a g + bAnd .i64 (shrI .i64 a (w64 (g - 1))) 1)
theorem rnd_g0 (a : Int) : T.g37 (0, [.i a, .i 0]) = some (0, [.i (rndV a 0)]) := by kernel_rfl
theorem rnd_g1 (a : Int) : T.g37 (0, [.i a, .i 1]) = some (0, [.i (rndV a 1)]) := by kernel_rfl
theorem rnd_g2 (a : Int) : T.g37 (0, [.i a, .i 2]) = some (0, [.i (rndV a 2)]) := by kernel_rfl
theorem rnd_g3 (a : Int) : T.g37 (0, [.i a, .i 3]) = some (0, [.i (rndV a 3)]) := by kernel_rfl
theorem rnd_g (a g : Int) (h0 : 0 ≤ g) (h3 : g ≤ 3) : T.g37 (0, [.i a, .i g]) = some (0, [.i (rndV a g)]) := by
  have hg : g = 0 ∨ g = 1 ∨ g = 2 ∨ g = 3 := by omega
  rcases hg with rfl | rfl | rfl | rfl
  · exact rnd_g0 a
  · exact rnd_g1 a
  · exact rnd_g2 a
  · exact rnd_g3 a
theorem and_1 (a : Int) : bAnd .i64 a 1 = a % 2 := Option.some.inj (bits_one a)
theorem rnd_up (x g : Int) (h0 : 0 ≤ g) (h3 : g ≤ 3) (hx : -1048576 ≤ x ∧ x ≤ 1048576) : rndV (upV x g) g = x := by
  have hg : g = 0 ∨ g = 1 ∨ g = 2 ∨ g = 3 := by omega
  rcases hg with rfl | rfl | rfl | rfl
  · have e : upV x 0 = w64 (x * 1) := by kernel_rfl
    rw [e, w64_id (by unfold In64; omega), Int.mul_one]
    rfl
  · have e : upV x 1 = w64 (x * 2) := by kernel_rfl
    rw [e, w64_id (by unfold In64; omega)]
    have e2 : rndV (x * 2) 1 = w64 ((x * 2).fdiv 2 + bAnd .i64 ((x * 2).fdiv 1) 1) := by kernel_rfl
    rw [e2, and_1, Int.fdiv_eq_ediv_of_nonneg _ (by omega), Int.fdiv_eq_ediv_of_nonneg _ (by omega), w64_id (by unfold In64; omega)]
    omega
  · have e : upV x 2 = w64 (x * 4) := by kernel_rfl
    rw [e, w64_id (by unfold In64; omega)]
    have e2 : rndV (x * 4) 2 = w64 ((x * 4).fdiv 4 + bAnd .i64 ((x * 4).fdiv 2) 1) := by kernel_rfl
    rw [e2, and_1, Int.fdiv_eq_ediv_of_nonneg _ (by omega), Int.fdiv_eq_ediv_of_nonneg _ (by omega), w64_id (by unfold In64; omega)]
    omega
  · have e : upV x 3 = w64 (x * 8) := by kernel_rfl
    rw [e, w64_id (by unfold In64; omega)]
    have e2 : rndV (x * 8) 3 = w64 ((x * 8).fdiv 8 + bAnd .i64 ((x * 8).fdiv 4) 1) := by kernel_rfl
    rw [e2, and_1, Int.fdiv_eq_ediv_of_nonneg _ (by omega), Int.fdiv_eq_ediv_of_nonneg _ (by omega), w64_id (by unfold In64; omega)]
    omega
end Go.Proofs.Ytmmfgbifbbiihaa
