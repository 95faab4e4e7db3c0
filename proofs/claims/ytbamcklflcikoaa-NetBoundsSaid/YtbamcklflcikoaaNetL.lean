/-
  The laws of what net makes of any block, and of unlike blocks. Conditions: none.
-/
import Derived.Test.YtbamcklflcikoaaDecA
namespace Go.Proofs.Ytbamcklflcikoaa
open Go Go.Sx A
set_option maxRecDepth 100000
set_option linter.unusedVariables false
attribute [local simp] asI_i asB_b asL_l asN_n asS_s asE_nil altK_none altK_0 altK_1 altK_2 altK_3 optK_some optK_none Bool.cond_decide Bool.cond_not Int.toNat_natCast
set_option linter.unusedSimpArgs false

def TS : List Int := [512, 1023, 1536, 3045, 2560, 4998, 3584, 6841, 4608, 8540, 5632, 10074, 6656, 11426, 7680, 12593]
theorem new_ok : g8 (0, []) = some (0, [.l TS]) := by kernel_rfl
def stepV (r : Nat) (b : List Int) (i : Nat) : List Int := if isP r i = true then atV turnV TS r b i else b
theorem atV_len (tv : Int → Int → Int → Int → Int × Int) (ts : List Int) (r : Nat) (b : List Int) (i : Nat) : (atV tv ts r b i).length = b.length := by unfold atV; simp
theorem stepV_len (r : Nat) (b : List Int) (i : Nat) : (stepV r b i).length = b.length := by
  unfold stepV
  split
  · exact atV_len _ _ _ _ _
  · rfl
theorem foldl_len {f : List Int → Nat → List Int} (h : ∀ b i, (f b i).length = b.length) : ∀ (l : List Nat) (b : List Int), (l.foldl f b).length = b.length
  | [], b => rfl
  | i :: l, b => (foldl_len h l (f b i)).trans (h b i)
theorem roundsV_len (tv : Int → Int → Int → Int → Int × Int) (ts : List Int) (rs : List Nat) (b : List Int) : (roundsV tv ts rs b).length = b.length := foldl_len (fun b r => foldl_len (atV_len tv ts r) _ b) rs b

theorem ff_0_0 (b0 b1 b2 b3 b4 b5 b6 b7 b8 b9 b10 b11 b12 b13 b14 b15 : Int) (h1 : List Int) : f10_0 (0, [.i ((2 ^ 0 : Nat) : Int), .i ((0 : Nat) : Int), .i ((0 : Nat) : Int), .l [b0, b1, b2, b3, b4, b5, b6, b7, b8, b9, b10, b11, b12, b13, b14, b15], .l h1]) = some (0, [.i ((2 ^ 0 : Nat) : Int), .i ((0 : Nat) : Int), .i ((0 + 1 : Nat) : Int), .l (stepV 0 [b0, b1, b2, b3, b4, b5, b6, b7, b8, b9, b10, b11, b12, b13, b14, b15] 0), .l h1]) := by kernel_rfl
theorem ff_0_1 (b0 b1 b2 b3 b4 b5 b6 b7 b8 b9 b10 b11 b12 b13 b14 b15 : Int) (h1 : List Int) : f10_0 (0, [.i ((2 ^ 0 : Nat) : Int), .i ((0 : Nat) : Int), .i ((1 : Nat) : Int), .l [b0, b1, b2, b3, b4, b5, b6, b7, b8, b9, b10, b11, b12, b13, b14, b15], .l h1]) = some (0, [.i ((2 ^ 0 : Nat) : Int), .i ((0 : Nat) : Int), .i ((1 + 1 : Nat) : Int), .l (stepV 0 [b0, b1, b2, b3, b4, b5, b6, b7, b8, b9, b10, b11, b12, b13, b14, b15] 1), .l h1]) := by kernel_rfl
theorem ff_0_2 (b0 b1 b2 b3 b4 b5 b6 b7 b8 b9 b10 b11 b12 b13 b14 b15 : Int) (h1 : List Int) : f10_0 (0, [.i ((2 ^ 0 : Nat) : Int), .i ((0 : Nat) : Int), .i ((2 : Nat) : Int), .l [b0, b1, b2, b3, b4, b5, b6, b7, b8, b9, b10, b11, b12, b13, b14, b15], .l h1]) = some (0, [.i ((2 ^ 0 : Nat) : Int), .i ((0 : Nat) : Int), .i ((2 + 1 : Nat) : Int), .l (stepV 0 [b0, b1, b2, b3, b4, b5, b6, b7, b8, b9, b10, b11, b12, b13, b14, b15] 2), .l h1]) := by kernel_rfl
theorem ff_0_3 (b0 b1 b2 b3 b4 b5 b6 b7 b8 b9 b10 b11 b12 b13 b14 b15 : Int) (h1 : List Int) : f10_0 (0, [.i ((2 ^ 0 : Nat) : Int), .i ((0 : Nat) : Int), .i ((3 : Nat) : Int), .l [b0, b1, b2, b3, b4, b5, b6, b7, b8, b9, b10, b11, b12, b13, b14, b15], .l h1]) = some (0, [.i ((2 ^ 0 : Nat) : Int), .i ((0 : Nat) : Int), .i ((3 + 1 : Nat) : Int), .l (stepV 0 [b0, b1, b2, b3, b4, b5, b6, b7, b8, b9, b10, b11, b12, b13, b14, b15] 3), .l h1]) := by kernel_rfl
theorem ff_0_4 (b0 b1 b2 b3 b4 b5 b6 b7 b8 b9 b10 b11 b12 b13 b14 b15 : Int) (h1 : List Int) : f10_0 (0, [.i ((2 ^ 0 : Nat) : Int), .i ((0 : Nat) : Int), .i ((4 : Nat) : Int), .l [b0, b1, b2, b3, b4, b5, b6, b7, b8, b9, b10, b11, b12, b13, b14, b15], .l h1]) = some (0, [.i ((2 ^ 0 : Nat) : Int), .i ((0 : Nat) : Int), .i ((4 + 1 : Nat) : Int), .l (stepV 0 [b0, b1, b2, b3, b4, b5, b6, b7, b8, b9, b10, b11, b12, b13, b14, b15] 4), .l h1]) := by kernel_rfl
theorem ff_0_5 (b0 b1 b2 b3 b4 b5 b6 b7 b8 b9 b10 b11 b12 b13 b14 b15 : Int) (h1 : List Int) : f10_0 (0, [.i ((2 ^ 0 : Nat) : Int), .i ((0 : Nat) : Int), .i ((5 : Nat) : Int), .l [b0, b1, b2, b3, b4, b5, b6, b7, b8, b9, b10, b11, b12, b13, b14, b15], .l h1]) = some (0, [.i ((2 ^ 0 : Nat) : Int), .i ((0 : Nat) : Int), .i ((5 + 1 : Nat) : Int), .l (stepV 0 [b0, b1, b2, b3, b4, b5, b6, b7, b8, b9, b10, b11, b12, b13, b14, b15] 5), .l h1]) := by kernel_rfl
theorem ff_0_6 (b0 b1 b2 b3 b4 b5 b6 b7 b8 b9 b10 b11 b12 b13 b14 b15 : Int) (h1 : List Int) : f10_0 (0, [.i ((2 ^ 0 : Nat) : Int), .i ((0 : Nat) : Int), .i ((6 : Nat) : Int), .l [b0, b1, b2, b3, b4, b5, b6, b7, b8, b9, b10, b11, b12, b13, b14, b15], .l h1]) = some (0, [.i ((2 ^ 0 : Nat) : Int), .i ((0 : Nat) : Int), .i ((6 + 1 : Nat) : Int), .l (stepV 0 [b0, b1, b2, b3, b4, b5, b6, b7, b8, b9, b10, b11, b12, b13, b14, b15] 6), .l h1]) := by kernel_rfl
theorem ff_0_7 (b0 b1 b2 b3 b4 b5 b6 b7 b8 b9 b10 b11 b12 b13 b14 b15 : Int) (h1 : List Int) : f10_0 (0, [.i ((2 ^ 0 : Nat) : Int), .i ((0 : Nat) : Int), .i ((7 : Nat) : Int), .l [b0, b1, b2, b3, b4, b5, b6, b7, b8, b9, b10, b11, b12, b13, b14, b15], .l h1]) = some (0, [.i ((2 ^ 0 : Nat) : Int), .i ((0 : Nat) : Int), .i ((7 + 1 : Nat) : Int), .l (stepV 0 [b0, b1, b2, b3, b4, b5, b6, b7, b8, b9, b10, b11, b12, b13, b14, b15] 7), .l h1]) := by kernel_rfl
theorem ff_0_8 (b0 b1 b2 b3 b4 b5 b6 b7 b8 b9 b10 b11 b12 b13 b14 b15 : Int) (h1 : List Int) : f10_0 (0, [.i ((2 ^ 0 : Nat) : Int), .i ((0 : Nat) : Int), .i ((8 : Nat) : Int), .l [b0, b1, b2, b3, b4, b5, b6, b7, b8, b9, b10, b11, b12, b13, b14, b15], .l h1]) = some (0, [.i ((2 ^ 0 : Nat) : Int), .i ((0 : Nat) : Int), .i ((8 + 1 : Nat) : Int), .l (stepV 0 [b0, b1, b2, b3, b4, b5, b6, b7, b8, b9, b10, b11, b12, b13, b14, b15] 8), .l h1]) := by kernel_rfl
theorem ff_0_9 (b0 b1 b2 b3 b4 b5 b6 b7 b8 b9 b10 b11 b12 b13 b14 b15 : Int) (h1 : List Int) : f10_0 (0, [.i ((2 ^ 0 : Nat) : Int), .i ((0 : Nat) : Int), .i ((9 : Nat) : Int), .l [b0, b1, b2, b3, b4, b5, b6, b7, b8, b9, b10, b11, b12, b13, b14, b15], .l h1]) = some (0, [.i ((2 ^ 0 : Nat) : Int), .i ((0 : Nat) : Int), .i ((9 + 1 : Nat) : Int), .l (stepV 0 [b0, b1, b2, b3, b4, b5, b6, b7, b8, b9, b10, b11, b12, b13, b14, b15] 9), .l h1]) := by kernel_rfl
theorem ff_0_10 (b0 b1 b2 b3 b4 b5 b6 b7 b8 b9 b10 b11 b12 b13 b14 b15 : Int) (h1 : List Int) : f10_0 (0, [.i ((2 ^ 0 : Nat) : Int), .i ((0 : Nat) : Int), .i ((10 : Nat) : Int), .l [b0, b1, b2, b3, b4, b5, b6, b7, b8, b9, b10, b11, b12, b13, b14, b15], .l h1]) = some (0, [.i ((2 ^ 0 : Nat) : Int), .i ((0 : Nat) : Int), .i ((10 + 1 : Nat) : Int), .l (stepV 0 [b0, b1, b2, b3, b4, b5, b6, b7, b8, b9, b10, b11, b12, b13, b14, b15] 10), .l h1]) := by kernel_rfl
theorem ff_0_11 (b0 b1 b2 b3 b4 b5 b6 b7 b8 b9 b10 b11 b12 b13 b14 b15 : Int) (h1 : List Int) : f10_0 (0, [.i ((2 ^ 0 : Nat) : Int), .i ((0 : Nat) : Int), .i ((11 : Nat) : Int), .l [b0, b1, b2, b3, b4, b5, b6, b7, b8, b9, b10, b11, b12, b13, b14, b15], .l h1]) = some (0, [.i ((2 ^ 0 : Nat) : Int), .i ((0 : Nat) : Int), .i ((11 + 1 : Nat) : Int), .l (stepV 0 [b0, b1, b2, b3, b4, b5, b6, b7, b8, b9, b10, b11, b12, b13, b14, b15] 11), .l h1]) := by kernel_rfl
theorem ff_0_12 (b0 b1 b2 b3 b4 b5 b6 b7 b8 b9 b10 b11 b12 b13 b14 b15 : Int) (h1 : List Int) : f10_0 (0, [.i ((2 ^ 0 : Nat) : Int), .i ((0 : Nat) : Int), .i ((12 : Nat) : Int), .l [b0, b1, b2, b3, b4, b5, b6, b7, b8, b9, b10, b11, b12, b13, b14, b15], .l h1]) = some (0, [.i ((2 ^ 0 : Nat) : Int), .i ((0 : Nat) : Int), .i ((12 + 1 : Nat) : Int), .l (stepV 0 [b0, b1, b2, b3, b4, b5, b6, b7, b8, b9, b10, b11, b12, b13, b14, b15] 12), .l h1]) := by kernel_rfl
theorem ff_0_13 (b0 b1 b2 b3 b4 b5 b6 b7 b8 b9 b10 b11 b12 b13 b14 b15 : Int) (h1 : List Int) : f10_0 (0, [.i ((2 ^ 0 : Nat) : Int), .i ((0 : Nat) : Int), .i ((13 : Nat) : Int), .l [b0, b1, b2, b3, b4, b5, b6, b7, b8, b9, b10, b11, b12, b13, b14, b15], .l h1]) = some (0, [.i ((2 ^ 0 : Nat) : Int), .i ((0 : Nat) : Int), .i ((13 + 1 : Nat) : Int), .l (stepV 0 [b0, b1, b2, b3, b4, b5, b6, b7, b8, b9, b10, b11, b12, b13, b14, b15] 13), .l h1]) := by kernel_rfl
theorem ff_0_14 (b0 b1 b2 b3 b4 b5 b6 b7 b8 b9 b10 b11 b12 b13 b14 b15 : Int) (h1 : List Int) : f10_0 (0, [.i ((2 ^ 0 : Nat) : Int), .i ((0 : Nat) : Int), .i ((14 : Nat) : Int), .l [b0, b1, b2, b3, b4, b5, b6, b7, b8, b9, b10, b11, b12, b13, b14, b15], .l h1]) = some (0, [.i ((2 ^ 0 : Nat) : Int), .i ((0 : Nat) : Int), .i ((14 + 1 : Nat) : Int), .l (stepV 0 [b0, b1, b2, b3, b4, b5, b6, b7, b8, b9, b10, b11, b12, b13, b14, b15] 14), .l h1]) := by kernel_rfl
theorem ff_0_15 (b0 b1 b2 b3 b4 b5 b6 b7 b8 b9 b10 b11 b12 b13 b14 b15 : Int) (h1 : List Int) : f10_0 (0, [.i ((2 ^ 0 : Nat) : Int), .i ((0 : Nat) : Int), .i ((15 : Nat) : Int), .l [b0, b1, b2, b3, b4, b5, b6, b7, b8, b9, b10, b11, b12, b13, b14, b15], .l h1]) = some (0, [.i ((2 ^ 0 : Nat) : Int), .i ((0 : Nat) : Int), .i ((15 + 1 : Nat) : Int), .l (stepV 0 [b0, b1, b2, b3, b4, b5, b6, b7, b8, b9, b10, b11, b12, b13, b14, b15] 15), .l h1]) := by kernel_rfl
theorem ff_1_0 (b0 b1 b2 b3 b4 b5 b6 b7 b8 b9 b10 b11 b12 b13 b14 b15 : Int) (h1 : List Int) : f10_0 (0, [.i ((2 ^ 1 : Nat) : Int), .i ((1 : Nat) : Int), .i ((0 : Nat) : Int), .l [b0, b1, b2, b3, b4, b5, b6, b7, b8, b9, b10, b11, b12, b13, b14, b15], .l h1]) = some (0, [.i ((2 ^ 1 : Nat) : Int), .i ((1 : Nat) : Int), .i ((0 + 1 : Nat) : Int), .l (stepV 1 [b0, b1, b2, b3, b4, b5, b6, b7, b8, b9, b10, b11, b12, b13, b14, b15] 0), .l h1]) := by kernel_rfl
theorem ff_1_1 (b0 b1 b2 b3 b4 b5 b6 b7 b8 b9 b10 b11 b12 b13 b14 b15 : Int) (h1 : List Int) : f10_0 (0, [.i ((2 ^ 1 : Nat) : Int), .i ((1 : Nat) : Int), .i ((1 : Nat) : Int), .l [b0, b1, b2, b3, b4, b5, b6, b7, b8, b9, b10, b11, b12, b13, b14, b15], .l h1]) = some (0, [.i ((2 ^ 1 : Nat) : Int), .i ((1 : Nat) : Int), .i ((1 + 1 : Nat) : Int), .l (stepV 1 [b0, b1, b2, b3, b4, b5, b6, b7, b8, b9, b10, b11, b12, b13, b14, b15] 1), .l h1]) := by kernel_rfl
theorem ff_1_2 (b0 b1 b2 b3 b4 b5 b6 b7 b8 b9 b10 b11 b12 b13 b14 b15 : Int) (h1 : List Int) : f10_0 (0, [.i ((2 ^ 1 : Nat) : Int), .i ((1 : Nat) : Int), .i ((2 : Nat) : Int), .l [b0, b1, b2, b3, b4, b5, b6, b7, b8, b9, b10, b11, b12, b13, b14, b15], .l h1]) = some (0, [.i ((2 ^ 1 : Nat) : Int), .i ((1 : Nat) : Int), .i ((2 + 1 : Nat) : Int), .l (stepV 1 [b0, b1, b2, b3, b4, b5, b6, b7, b8, b9, b10, b11, b12, b13, b14, b15] 2), .l h1]) := by kernel_rfl
theorem ff_1_3 (b0 b1 b2 b3 b4 b5 b6 b7 b8 b9 b10 b11 b12 b13 b14 b15 : Int) (h1 : List Int) : f10_0 (0, [.i ((2 ^ 1 : Nat) : Int), .i ((1 : Nat) : Int), .i ((3 : Nat) : Int), .l [b0, b1, b2, b3, b4, b5, b6, b7, b8, b9, b10, b11, b12, b13, b14, b15], .l h1]) = some (0, [.i ((2 ^ 1 : Nat) : Int), .i ((1 : Nat) : Int), .i ((3 + 1 : Nat) : Int), .l (stepV 1 [b0, b1, b2, b3, b4, b5, b6, b7, b8, b9, b10, b11, b12, b13, b14, b15] 3), .l h1]) := by kernel_rfl
theorem ff_1_4 (b0 b1 b2 b3 b4 b5 b6 b7 b8 b9 b10 b11 b12 b13 b14 b15 : Int) (h1 : List Int) : f10_0 (0, [.i ((2 ^ 1 : Nat) : Int), .i ((1 : Nat) : Int), .i ((4 : Nat) : Int), .l [b0, b1, b2, b3, b4, b5, b6, b7, b8, b9, b10, b11, b12, b13, b14, b15], .l h1]) = some (0, [.i ((2 ^ 1 : Nat) : Int), .i ((1 : Nat) : Int), .i ((4 + 1 : Nat) : Int), .l (stepV 1 [b0, b1, b2, b3, b4, b5, b6, b7, b8, b9, b10, b11, b12, b13, b14, b15] 4), .l h1]) := by kernel_rfl
theorem ff_1_5 (b0 b1 b2 b3 b4 b5 b6 b7 b8 b9 b10 b11 b12 b13 b14 b15 : Int) (h1 : List Int) : f10_0 (0, [.i ((2 ^ 1 : Nat) : Int), .i ((1 : Nat) : Int), .i ((5 : Nat) : Int), .l [b0, b1, b2, b3, b4, b5, b6, b7, b8, b9, b10, b11, b12, b13, b14, b15], .l h1]) = some (0, [.i ((2 ^ 1 : Nat) : Int), .i ((1 : Nat) : Int), .i ((5 + 1 : Nat) : Int), .l (stepV 1 [b0, b1, b2, b3, b4, b5, b6, b7, b8, b9, b10, b11, b12, b13, b14, b15] 5), .l h1]) := by kernel_rfl
theorem ff_1_6 (b0 b1 b2 b3 b4 b5 b6 b7 b8 b9 b10 b11 b12 b13 b14 b15 : Int) (h1 : List Int) : f10_0 (0, [.i ((2 ^ 1 : Nat) : Int), .i ((1 : Nat) : Int), .i ((6 : Nat) : Int), .l [b0, b1, b2, b3, b4, b5, b6, b7, b8, b9, b10, b11, b12, b13, b14, b15], .l h1]) = some (0, [.i ((2 ^ 1 : Nat) : Int), .i ((1 : Nat) : Int), .i ((6 + 1 : Nat) : Int), .l (stepV 1 [b0, b1, b2, b3, b4, b5, b6, b7, b8, b9, b10, b11, b12, b13, b14, b15] 6), .l h1]) := by kernel_rfl
theorem ff_1_7 (b0 b1 b2 b3 b4 b5 b6 b7 b8 b9 b10 b11 b12 b13 b14 b15 : Int) (h1 : List Int) : f10_0 (0, [.i ((2 ^ 1 : Nat) : Int), .i ((1 : Nat) : Int), .i ((7 : Nat) : Int), .l [b0, b1, b2, b3, b4, b5, b6, b7, b8, b9, b10, b11, b12, b13, b14, b15], .l h1]) = some (0, [.i ((2 ^ 1 : Nat) : Int), .i ((1 : Nat) : Int), .i ((7 + 1 : Nat) : Int), .l (stepV 1 [b0, b1, b2, b3, b4, b5, b6, b7, b8, b9, b10, b11, b12, b13, b14, b15] 7), .l h1]) := by kernel_rfl
theorem ff_1_8 (b0 b1 b2 b3 b4 b5 b6 b7 b8 b9 b10 b11 b12 b13 b14 b15 : Int) (h1 : List Int) : f10_0 (0, [.i ((2 ^ 1 : Nat) : Int), .i ((1 : Nat) : Int), .i ((8 : Nat) : Int), .l [b0, b1, b2, b3, b4, b5, b6, b7, b8, b9, b10, b11, b12, b13, b14, b15], .l h1]) = some (0, [.i ((2 ^ 1 : Nat) : Int), .i ((1 : Nat) : Int), .i ((8 + 1 : Nat) : Int), .l (stepV 1 [b0, b1, b2, b3, b4, b5, b6, b7, b8, b9, b10, b11, b12, b13, b14, b15] 8), .l h1]) := by kernel_rfl
theorem ff_1_9 (b0 b1 b2 b3 b4 b5 b6 b7 b8 b9 b10 b11 b12 b13 b14 b15 : Int) (h1 : List Int) : f10_0 (0, [.i ((2 ^ 1 : Nat) : Int), .i ((1 : Nat) : Int), .i ((9 : Nat) : Int), .l [b0, b1, b2, b3, b4, b5, b6, b7, b8, b9, b10, b11, b12, b13, b14, b15], .l h1]) = some (0, [.i ((2 ^ 1 : Nat) : Int), .i ((1 : Nat) : Int), .i ((9 + 1 : Nat) : Int), .l (stepV 1 [b0, b1, b2, b3, b4, b5, b6, b7, b8, b9, b10, b11, b12, b13, b14, b15] 9), .l h1]) := by kernel_rfl
theorem ff_1_10 (b0 b1 b2 b3 b4 b5 b6 b7 b8 b9 b10 b11 b12 b13 b14 b15 : Int) (h1 : List Int) : f10_0 (0, [.i ((2 ^ 1 : Nat) : Int), .i ((1 : Nat) : Int), .i ((10 : Nat) : Int), .l [b0, b1, b2, b3, b4, b5, b6, b7, b8, b9, b10, b11, b12, b13, b14, b15], .l h1]) = some (0, [.i ((2 ^ 1 : Nat) : Int), .i ((1 : Nat) : Int), .i ((10 + 1 : Nat) : Int), .l (stepV 1 [b0, b1, b2, b3, b4, b5, b6, b7, b8, b9, b10, b11, b12, b13, b14, b15] 10), .l h1]) := by kernel_rfl
theorem ff_1_11 (b0 b1 b2 b3 b4 b5 b6 b7 b8 b9 b10 b11 b12 b13 b14 b15 : Int) (h1 : List Int) : f10_0 (0, [.i ((2 ^ 1 : Nat) : Int), .i ((1 : Nat) : Int), .i ((11 : Nat) : Int), .l [b0, b1, b2, b3, b4, b5, b6, b7, b8, b9, b10, b11, b12, b13, b14, b15], .l h1]) = some (0, [.i ((2 ^ 1 : Nat) : Int), .i ((1 : Nat) : Int), .i ((11 + 1 : Nat) : Int), .l (stepV 1 [b0, b1, b2, b3, b4, b5, b6, b7, b8, b9, b10, b11, b12, b13, b14, b15] 11), .l h1]) := by kernel_rfl
theorem ff_1_12 (b0 b1 b2 b3 b4 b5 b6 b7 b8 b9 b10 b11 b12 b13 b14 b15 : Int) (h1 : List Int) : f10_0 (0, [.i ((2 ^ 1 : Nat) : Int), .i ((1 : Nat) : Int), .i ((12 : Nat) : Int), .l [b0, b1, b2, b3, b4, b5, b6, b7, b8, b9, b10, b11, b12, b13, b14, b15], .l h1]) = some (0, [.i ((2 ^ 1 : Nat) : Int), .i ((1 : Nat) : Int), .i ((12 + 1 : Nat) : Int), .l (stepV 1 [b0, b1, b2, b3, b4, b5, b6, b7, b8, b9, b10, b11, b12, b13, b14, b15] 12), .l h1]) := by kernel_rfl
theorem ff_1_13 (b0 b1 b2 b3 b4 b5 b6 b7 b8 b9 b10 b11 b12 b13 b14 b15 : Int) (h1 : List Int) : f10_0 (0, [.i ((2 ^ 1 : Nat) : Int), .i ((1 : Nat) : Int), .i ((13 : Nat) : Int), .l [b0, b1, b2, b3, b4, b5, b6, b7, b8, b9, b10, b11, b12, b13, b14, b15], .l h1]) = some (0, [.i ((2 ^ 1 : Nat) : Int), .i ((1 : Nat) : Int), .i ((13 + 1 : Nat) : Int), .l (stepV 1 [b0, b1, b2, b3, b4, b5, b6, b7, b8, b9, b10, b11, b12, b13, b14, b15] 13), .l h1]) := by kernel_rfl
theorem ff_1_14 (b0 b1 b2 b3 b4 b5 b6 b7 b8 b9 b10 b11 b12 b13 b14 b15 : Int) (h1 : List Int) : f10_0 (0, [.i ((2 ^ 1 : Nat) : Int), .i ((1 : Nat) : Int), .i ((14 : Nat) : Int), .l [b0, b1, b2, b3, b4, b5, b6, b7, b8, b9, b10, b11, b12, b13, b14, b15], .l h1]) = some (0, [.i ((2 ^ 1 : Nat) : Int), .i ((1 : Nat) : Int), .i ((14 + 1 : Nat) : Int), .l (stepV 1 [b0, b1, b2, b3, b4, b5, b6, b7, b8, b9, b10, b11, b12, b13, b14, b15] 14), .l h1]) := by kernel_rfl
theorem ff_1_15 (b0 b1 b2 b3 b4 b5 b6 b7 b8 b9 b10 b11 b12 b13 b14 b15 : Int) (h1 : List Int) : f10_0 (0, [.i ((2 ^ 1 : Nat) : Int), .i ((1 : Nat) : Int), .i ((15 : Nat) : Int), .l [b0, b1, b2, b3, b4, b5, b6, b7, b8, b9, b10, b11, b12, b13, b14, b15], .l h1]) = some (0, [.i ((2 ^ 1 : Nat) : Int), .i ((1 : Nat) : Int), .i ((15 + 1 : Nat) : Int), .l (stepV 1 [b0, b1, b2, b3, b4, b5, b6, b7, b8, b9, b10, b11, b12, b13, b14, b15] 15), .l h1]) := by kernel_rfl
theorem ff_2_0 (b0 b1 b2 b3 b4 b5 b6 b7 b8 b9 b10 b11 b12 b13 b14 b15 : Int) (h1 : List Int) : f10_0 (0, [.i ((2 ^ 2 : Nat) : Int), .i ((2 : Nat) : Int), .i ((0 : Nat) : Int), .l [b0, b1, b2, b3, b4, b5, b6, b7, b8, b9, b10, b11, b12, b13, b14, b15], .l h1]) = some (0, [.i ((2 ^ 2 : Nat) : Int), .i ((2 : Nat) : Int), .i ((0 + 1 : Nat) : Int), .l (stepV 2 [b0, b1, b2, b3, b4, b5, b6, b7, b8, b9, b10, b11, b12, b13, b14, b15] 0), .l h1]) := by kernel_rfl
theorem ff_2_1 (b0 b1 b2 b3 b4 b5 b6 b7 b8 b9 b10 b11 b12 b13 b14 b15 : Int) (h1 : List Int) : f10_0 (0, [.i ((2 ^ 2 : Nat) : Int), .i ((2 : Nat) : Int), .i ((1 : Nat) : Int), .l [b0, b1, b2, b3, b4, b5, b6, b7, b8, b9, b10, b11, b12, b13, b14, b15], .l h1]) = some (0, [.i ((2 ^ 2 : Nat) : Int), .i ((2 : Nat) : Int), .i ((1 + 1 : Nat) : Int), .l (stepV 2 [b0, b1, b2, b3, b4, b5, b6, b7, b8, b9, b10, b11, b12, b13, b14, b15] 1), .l h1]) := by kernel_rfl
theorem ff_2_2 (b0 b1 b2 b3 b4 b5 b6 b7 b8 b9 b10 b11 b12 b13 b14 b15 : Int) (h1 : List Int) : f10_0 (0, [.i ((2 ^ 2 : Nat) : Int), .i ((2 : Nat) : Int), .i ((2 : Nat) : Int), .l [b0, b1, b2, b3, b4, b5, b6, b7, b8, b9, b10, b11, b12, b13, b14, b15], .l h1]) = some (0, [.i ((2 ^ 2 : Nat) : Int), .i ((2 : Nat) : Int), .i ((2 + 1 : Nat) : Int), .l (stepV 2 [b0, b1, b2, b3, b4, b5, b6, b7, b8, b9, b10, b11, b12, b13, b14, b15] 2), .l h1]) := by kernel_rfl
theorem ff_2_3 (b0 b1 b2 b3 b4 b5 b6 b7 b8 b9 b10 b11 b12 b13 b14 b15 : Int) (h1 : List Int) : f10_0 (0, [.i ((2 ^ 2 : Nat) : Int), .i ((2 : Nat) : Int), .i ((3 : Nat) : Int), .l [b0, b1, b2, b3, b4, b5, b6, b7, b8, b9, b10, b11, b12, b13, b14, b15], .l h1]) = some (0, [.i ((2 ^ 2 : Nat) : Int), .i ((2 : Nat) : Int), .i ((3 + 1 : Nat) : Int), .l (stepV 2 [b0, b1, b2, b3, b4, b5, b6, b7, b8, b9, b10, b11, b12, b13, b14, b15] 3), .l h1]) := by kernel_rfl
theorem ff_2_4 (b0 b1 b2 b3 b4 b5 b6 b7 b8 b9 b10 b11 b12 b13 b14 b15 : Int) (h1 : List Int) : f10_0 (0, [.i ((2 ^ 2 : Nat) : Int), .i ((2 : Nat) : Int), .i ((4 : Nat) : Int), .l [b0, b1, b2, b3, b4, b5, b6, b7, b8, b9, b10, b11, b12, b13, b14, b15], .l h1]) = some (0, [.i ((2 ^ 2 : Nat) : Int), .i ((2 : Nat) : Int), .i ((4 + 1 : Nat) : Int), .l (stepV 2 [b0, b1, b2, b3, b4, b5, b6, b7, b8, b9, b10, b11, b12, b13, b14, b15] 4), .l h1]) := by kernel_rfl
theorem ff_2_5 (b0 b1 b2 b3 b4 b5 b6 b7 b8 b9 b10 b11 b12 b13 b14 b15 : Int) (h1 : List Int) : f10_0 (0, [.i ((2 ^ 2 : Nat) : Int), .i ((2 : Nat) : Int), .i ((5 : Nat) : Int), .l [b0, b1, b2, b3, b4, b5, b6, b7, b8, b9, b10, b11, b12, b13, b14, b15], .l h1]) = some (0, [.i ((2 ^ 2 : Nat) : Int), .i ((2 : Nat) : Int), .i ((5 + 1 : Nat) : Int), .l (stepV 2 [b0, b1, b2, b3, b4, b5, b6, b7, b8, b9, b10, b11, b12, b13, b14, b15] 5), .l h1]) := by kernel_rfl
theorem ff_2_6 (b0 b1 b2 b3 b4 b5 b6 b7 b8 b9 b10 b11 b12 b13 b14 b15 : Int) (h1 : List Int) : f10_0 (0, [.i ((2 ^ 2 : Nat) : Int), .i ((2 : Nat) : Int), .i ((6 : Nat) : Int), .l [b0, b1, b2, b3, b4, b5, b6, b7, b8, b9, b10, b11, b12, b13, b14, b15], .l h1]) = some (0, [.i ((2 ^ 2 : Nat) : Int), .i ((2 : Nat) : Int), .i ((6 + 1 : Nat) : Int), .l (stepV 2 [b0, b1, b2, b3, b4, b5, b6, b7, b8, b9, b10, b11, b12, b13, b14, b15] 6), .l h1]) := by kernel_rfl
theorem ff_2_7 (b0 b1 b2 b3 b4 b5 b6 b7 b8 b9 b10 b11 b12 b13 b14 b15 : Int) (h1 : List Int) : f10_0 (0, [.i ((2 ^ 2 : Nat) : Int), .i ((2 : Nat) : Int), .i ((7 : Nat) : Int), .l [b0, b1, b2, b3, b4, b5, b6, b7, b8, b9, b10, b11, b12, b13, b14, b15], .l h1]) = some (0, [.i ((2 ^ 2 : Nat) : Int), .i ((2 : Nat) : Int), .i ((7 + 1 : Nat) : Int), .l (stepV 2 [b0, b1, b2, b3, b4, b5, b6, b7, b8, b9, b10, b11, b12, b13, b14, b15] 7), .l h1]) := by kernel_rfl
theorem ff_2_8 (b0 b1 b2 b3 b4 b5 b6 b7 b8 b9 b10 b11 b12 b13 b14 b15 : Int) (h1 : List Int) : f10_0 (0, [.i ((2 ^ 2 : Nat) : Int), .i ((2 : Nat) : Int), .i ((8 : Nat) : Int), .l [b0, b1, b2, b3, b4, b5, b6, b7, b8, b9, b10, b11, b12, b13, b14, b15], .l h1]) = some (0, [.i ((2 ^ 2 : Nat) : Int), .i ((2 : Nat) : Int), .i ((8 + 1 : Nat) : Int), .l (stepV 2 [b0, b1, b2, b3, b4, b5, b6, b7, b8, b9, b10, b11, b12, b13, b14, b15] 8), .l h1]) := by kernel_rfl
theorem ff_2_9 (b0 b1 b2 b3 b4 b5 b6 b7 b8 b9 b10 b11 b12 b13 b14 b15 : Int) (h1 : List Int) : f10_0 (0, [.i ((2 ^ 2 : Nat) : Int), .i ((2 : Nat) : Int), .i ((9 : Nat) : Int), .l [b0, b1, b2, b3, b4, b5, b6, b7, b8, b9, b10, b11, b12, b13, b14, b15], .l h1]) = some (0, [.i ((2 ^ 2 : Nat) : Int), .i ((2 : Nat) : Int), .i ((9 + 1 : Nat) : Int), .l (stepV 2 [b0, b1, b2, b3, b4, b5, b6, b7, b8, b9, b10, b11, b12, b13, b14, b15] 9), .l h1]) := by kernel_rfl
theorem ff_2_10 (b0 b1 b2 b3 b4 b5 b6 b7 b8 b9 b10 b11 b12 b13 b14 b15 : Int) (h1 : List Int) : f10_0 (0, [.i ((2 ^ 2 : Nat) : Int), .i ((2 : Nat) : Int), .i ((10 : Nat) : Int), .l [b0, b1, b2, b3, b4, b5, b6, b7, b8, b9, b10, b11, b12, b13, b14, b15], .l h1]) = some (0, [.i ((2 ^ 2 : Nat) : Int), .i ((2 : Nat) : Int), .i ((10 + 1 : Nat) : Int), .l (stepV 2 [b0, b1, b2, b3, b4, b5, b6, b7, b8, b9, b10, b11, b12, b13, b14, b15] 10), .l h1]) := by kernel_rfl
theorem ff_2_11 (b0 b1 b2 b3 b4 b5 b6 b7 b8 b9 b10 b11 b12 b13 b14 b15 : Int) (h1 : List Int) : f10_0 (0, [.i ((2 ^ 2 : Nat) : Int), .i ((2 : Nat) : Int), .i ((11 : Nat) : Int), .l [b0, b1, b2, b3, b4, b5, b6, b7, b8, b9, b10, b11, b12, b13, b14, b15], .l h1]) = some (0, [.i ((2 ^ 2 : Nat) : Int), .i ((2 : Nat) : Int), .i ((11 + 1 : Nat) : Int), .l (stepV 2 [b0, b1, b2, b3, b4, b5, b6, b7, b8, b9, b10, b11, b12, b13, b14, b15] 11), .l h1]) := by kernel_rfl
theorem ff_2_12 (b0 b1 b2 b3 b4 b5 b6 b7 b8 b9 b10 b11 b12 b13 b14 b15 : Int) (h1 : List Int) : f10_0 (0, [.i ((2 ^ 2 : Nat) : Int), .i ((2 : Nat) : Int), .i ((12 : Nat) : Int), .l [b0, b1, b2, b3, b4, b5, b6, b7, b8, b9, b10, b11, b12, b13, b14, b15], .l h1]) = some (0, [.i ((2 ^ 2 : Nat) : Int), .i ((2 : Nat) : Int), .i ((12 + 1 : Nat) : Int), .l (stepV 2 [b0, b1, b2, b3, b4, b5, b6, b7, b8, b9, b10, b11, b12, b13, b14, b15] 12), .l h1]) := by kernel_rfl
theorem ff_2_13 (b0 b1 b2 b3 b4 b5 b6 b7 b8 b9 b10 b11 b12 b13 b14 b15 : Int) (h1 : List Int) : f10_0 (0, [.i ((2 ^ 2 : Nat) : Int), .i ((2 : Nat) : Int), .i ((13 : Nat) : Int), .l [b0, b1, b2, b3, b4, b5, b6, b7, b8, b9, b10, b11, b12, b13, b14, b15], .l h1]) = some (0, [.i ((2 ^ 2 : Nat) : Int), .i ((2 : Nat) : Int), .i ((13 + 1 : Nat) : Int), .l (stepV 2 [b0, b1, b2, b3, b4, b5, b6, b7, b8, b9, b10, b11, b12, b13, b14, b15] 13), .l h1]) := by kernel_rfl
theorem ff_2_14 (b0 b1 b2 b3 b4 b5 b6 b7 b8 b9 b10 b11 b12 b13 b14 b15 : Int) (h1 : List Int) : f10_0 (0, [.i ((2 ^ 2 : Nat) : Int), .i ((2 : Nat) : Int), .i ((14 : Nat) : Int), .l [b0, b1, b2, b3, b4, b5, b6, b7, b8, b9, b10, b11, b12, b13, b14, b15], .l h1]) = some (0, [.i ((2 ^ 2 : Nat) : Int), .i ((2 : Nat) : Int), .i ((14 + 1 : Nat) : Int), .l (stepV 2 [b0, b1, b2, b3, b4, b5, b6, b7, b8, b9, b10, b11, b12, b13, b14, b15] 14), .l h1]) := by kernel_rfl
theorem ff_2_15 (b0 b1 b2 b3 b4 b5 b6 b7 b8 b9 b10 b11 b12 b13 b14 b15 : Int) (h1 : List Int) : f10_0 (0, [.i ((2 ^ 2 : Nat) : Int), .i ((2 : Nat) : Int), .i ((15 : Nat) : Int), .l [b0, b1, b2, b3, b4, b5, b6, b7, b8, b9, b10, b11, b12, b13, b14, b15], .l h1]) = some (0, [.i ((2 ^ 2 : Nat) : Int), .i ((2 : Nat) : Int), .i ((15 + 1 : Nat) : Int), .l (stepV 2 [b0, b1, b2, b3, b4, b5, b6, b7, b8, b9, b10, b11, b12, b13, b14, b15] 15), .l h1]) := by kernel_rfl
theorem ff_3_0 (b0 b1 b2 b3 b4 b5 b6 b7 b8 b9 b10 b11 b12 b13 b14 b15 : Int) (h1 : List Int) : f10_0 (0, [.i ((2 ^ 3 : Nat) : Int), .i ((3 : Nat) : Int), .i ((0 : Nat) : Int), .l [b0, b1, b2, b3, b4, b5, b6, b7, b8, b9, b10, b11, b12, b13, b14, b15], .l h1]) = some (0, [.i ((2 ^ 3 : Nat) : Int), .i ((3 : Nat) : Int), .i ((0 + 1 : Nat) : Int), .l (stepV 3 [b0, b1, b2, b3, b4, b5, b6, b7, b8, b9, b10, b11, b12, b13, b14, b15] 0), .l h1]) := by kernel_rfl
theorem ff_3_1 (b0 b1 b2 b3 b4 b5 b6 b7 b8 b9 b10 b11 b12 b13 b14 b15 : Int) (h1 : List Int) : f10_0 (0, [.i ((2 ^ 3 : Nat) : Int), .i ((3 : Nat) : Int), .i ((1 : Nat) : Int), .l [b0, b1, b2, b3, b4, b5, b6, b7, b8, b9, b10, b11, b12, b13, b14, b15], .l h1]) = some (0, [.i ((2 ^ 3 : Nat) : Int), .i ((3 : Nat) : Int), .i ((1 + 1 : Nat) : Int), .l (stepV 3 [b0, b1, b2, b3, b4, b5, b6, b7, b8, b9, b10, b11, b12, b13, b14, b15] 1), .l h1]) := by kernel_rfl
theorem ff_3_2 (b0 b1 b2 b3 b4 b5 b6 b7 b8 b9 b10 b11 b12 b13 b14 b15 : Int) (h1 : List Int) : f10_0 (0, [.i ((2 ^ 3 : Nat) : Int), .i ((3 : Nat) : Int), .i ((2 : Nat) : Int), .l [b0, b1, b2, b3, b4, b5, b6, b7, b8, b9, b10, b11, b12, b13, b14, b15], .l h1]) = some (0, [.i ((2 ^ 3 : Nat) : Int), .i ((3 : Nat) : Int), .i ((2 + 1 : Nat) : Int), .l (stepV 3 [b0, b1, b2, b3, b4, b5, b6, b7, b8, b9, b10, b11, b12, b13, b14, b15] 2), .l h1]) := by kernel_rfl
theorem ff_3_3 (b0 b1 b2 b3 b4 b5 b6 b7 b8 b9 b10 b11 b12 b13 b14 b15 : Int) (h1 : List Int) : f10_0 (0, [.i ((2 ^ 3 : Nat) : Int), .i ((3 : Nat) : Int), .i ((3 : Nat) : Int), .l [b0, b1, b2, b3, b4, b5, b6, b7, b8, b9, b10, b11, b12, b13, b14, b15], .l h1]) = some (0, [.i ((2 ^ 3 : Nat) : Int), .i ((3 : Nat) : Int), .i ((3 + 1 : Nat) : Int), .l (stepV 3 [b0, b1, b2, b3, b4, b5, b6, b7, b8, b9, b10, b11, b12, b13, b14, b15] 3), .l h1]) := by kernel_rfl
theorem ff_3_4 (b0 b1 b2 b3 b4 b5 b6 b7 b8 b9 b10 b11 b12 b13 b14 b15 : Int) (h1 : List Int) : f10_0 (0, [.i ((2 ^ 3 : Nat) : Int), .i ((3 : Nat) : Int), .i ((4 : Nat) : Int), .l [b0, b1, b2, b3, b4, b5, b6, b7, b8, b9, b10, b11, b12, b13, b14, b15], .l h1]) = some (0, [.i ((2 ^ 3 : Nat) : Int), .i ((3 : Nat) : Int), .i ((4 + 1 : Nat) : Int), .l (stepV 3 [b0, b1, b2, b3, b4, b5, b6, b7, b8, b9, b10, b11, b12, b13, b14, b15] 4), .l h1]) := by kernel_rfl
theorem ff_3_5 (b0 b1 b2 b3 b4 b5 b6 b7 b8 b9 b10 b11 b12 b13 b14 b15 : Int) (h1 : List Int) : f10_0 (0, [.i ((2 ^ 3 : Nat) : Int), .i ((3 : Nat) : Int), .i ((5 : Nat) : Int), .l [b0, b1, b2, b3, b4, b5, b6, b7, b8, b9, b10, b11, b12, b13, b14, b15], .l h1]) = some (0, [.i ((2 ^ 3 : Nat) : Int), .i ((3 : Nat) : Int), .i ((5 + 1 : Nat) : Int), .l (stepV 3 [b0, b1, b2, b3, b4, b5, b6, b7, b8, b9, b10, b11, b12, b13, b14, b15] 5), .l h1]) := by kernel_rfl
theorem ff_3_6 (b0 b1 b2 b3 b4 b5 b6 b7 b8 b9 b10 b11 b12 b13 b14 b15 : Int) (h1 : List Int) : f10_0 (0, [.i ((2 ^ 3 : Nat) : Int), .i ((3 : Nat) : Int), .i ((6 : Nat) : Int), .l [b0, b1, b2, b3, b4, b5, b6, b7, b8, b9, b10, b11, b12, b13, b14, b15], .l h1]) = some (0, [.i ((2 ^ 3 : Nat) : Int), .i ((3 : Nat) : Int), .i ((6 + 1 : Nat) : Int), .l (stepV 3 [b0, b1, b2, b3, b4, b5, b6, b7, b8, b9, b10, b11, b12, b13, b14, b15] 6), .l h1]) := by kernel_rfl
theorem ff_3_7 (b0 b1 b2 b3 b4 b5 b6 b7 b8 b9 b10 b11 b12 b13 b14 b15 : Int) (h1 : List Int) : f10_0 (0, [.i ((2 ^ 3 : Nat) : Int), .i ((3 : Nat) : Int), .i ((7 : Nat) : Int), .l [b0, b1, b2, b3, b4, b5, b6, b7, b8, b9, b10, b11, b12, b13, b14, b15], .l h1]) = some (0, [.i ((2 ^ 3 : Nat) : Int), .i ((3 : Nat) : Int), .i ((7 + 1 : Nat) : Int), .l (stepV 3 [b0, b1, b2, b3, b4, b5, b6, b7, b8, b9, b10, b11, b12, b13, b14, b15] 7), .l h1]) := by kernel_rfl
theorem ff_3_8 (b0 b1 b2 b3 b4 b5 b6 b7 b8 b9 b10 b11 b12 b13 b14 b15 : Int) (h1 : List Int) : f10_0 (0, [.i ((2 ^ 3 : Nat) : Int), .i ((3 : Nat) : Int), .i ((8 : Nat) : Int), .l [b0, b1, b2, b3, b4, b5, b6, b7, b8, b9, b10, b11, b12, b13, b14, b15], .l h1]) = some (0, [.i ((2 ^ 3 : Nat) : Int), .i ((3 : Nat) : Int), .i ((8 + 1 : Nat) : Int), .l (stepV 3 [b0, b1, b2, b3, b4, b5, b6, b7, b8, b9, b10, b11, b12, b13, b14, b15] 8), .l h1]) := by kernel_rfl
theorem ff_3_9 (b0 b1 b2 b3 b4 b5 b6 b7 b8 b9 b10 b11 b12 b13 b14 b15 : Int) (h1 : List Int) : f10_0 (0, [.i ((2 ^ 3 : Nat) : Int), .i ((3 : Nat) : Int), .i ((9 : Nat) : Int), .l [b0, b1, b2, b3, b4, b5, b6, b7, b8, b9, b10, b11, b12, b13, b14, b15], .l h1]) = some (0, [.i ((2 ^ 3 : Nat) : Int), .i ((3 : Nat) : Int), .i ((9 + 1 : Nat) : Int), .l (stepV 3 [b0, b1, b2, b3, b4, b5, b6, b7, b8, b9, b10, b11, b12, b13, b14, b15] 9), .l h1]) := by kernel_rfl
theorem ff_3_10 (b0 b1 b2 b3 b4 b5 b6 b7 b8 b9 b10 b11 b12 b13 b14 b15 : Int) (h1 : List Int) : f10_0 (0, [.i ((2 ^ 3 : Nat) : Int), .i ((3 : Nat) : Int), .i ((10 : Nat) : Int), .l [b0, b1, b2, b3, b4, b5, b6, b7, b8, b9, b10, b11, b12, b13, b14, b15], .l h1]) = some (0, [.i ((2 ^ 3 : Nat) : Int), .i ((3 : Nat) : Int), .i ((10 + 1 : Nat) : Int), .l (stepV 3 [b0, b1, b2, b3, b4, b5, b6, b7, b8, b9, b10, b11, b12, b13, b14, b15] 10), .l h1]) := by kernel_rfl
theorem ff_3_11 (b0 b1 b2 b3 b4 b5 b6 b7 b8 b9 b10 b11 b12 b13 b14 b15 : Int) (h1 : List Int) : f10_0 (0, [.i ((2 ^ 3 : Nat) : Int), .i ((3 : Nat) : Int), .i ((11 : Nat) : Int), .l [b0, b1, b2, b3, b4, b5, b6, b7, b8, b9, b10, b11, b12, b13, b14, b15], .l h1]) = some (0, [.i ((2 ^ 3 : Nat) : Int), .i ((3 : Nat) : Int), .i ((11 + 1 : Nat) : Int), .l (stepV 3 [b0, b1, b2, b3, b4, b5, b6, b7, b8, b9, b10, b11, b12, b13, b14, b15] 11), .l h1]) := by kernel_rfl
theorem ff_3_12 (b0 b1 b2 b3 b4 b5 b6 b7 b8 b9 b10 b11 b12 b13 b14 b15 : Int) (h1 : List Int) : f10_0 (0, [.i ((2 ^ 3 : Nat) : Int), .i ((3 : Nat) : Int), .i ((12 : Nat) : Int), .l [b0, b1, b2, b3, b4, b5, b6, b7, b8, b9, b10, b11, b12, b13, b14, b15], .l h1]) = some (0, [.i ((2 ^ 3 : Nat) : Int), .i ((3 : Nat) : Int), .i ((12 + 1 : Nat) : Int), .l (stepV 3 [b0, b1, b2, b3, b4, b5, b6, b7, b8, b9, b10, b11, b12, b13, b14, b15] 12), .l h1]) := by kernel_rfl
theorem ff_3_13 (b0 b1 b2 b3 b4 b5 b6 b7 b8 b9 b10 b11 b12 b13 b14 b15 : Int) (h1 : List Int) : f10_0 (0, [.i ((2 ^ 3 : Nat) : Int), .i ((3 : Nat) : Int), .i ((13 : Nat) : Int), .l [b0, b1, b2, b3, b4, b5, b6, b7, b8, b9, b10, b11, b12, b13, b14, b15], .l h1]) = some (0, [.i ((2 ^ 3 : Nat) : Int), .i ((3 : Nat) : Int), .i ((13 + 1 : Nat) : Int), .l (stepV 3 [b0, b1, b2, b3, b4, b5, b6, b7, b8, b9, b10, b11, b12, b13, b14, b15] 13), .l h1]) := by kernel_rfl
theorem ff_3_14 (b0 b1 b2 b3 b4 b5 b6 b7 b8 b9 b10 b11 b12 b13 b14 b15 : Int) (h1 : List Int) : f10_0 (0, [.i ((2 ^ 3 : Nat) : Int), .i ((3 : Nat) : Int), .i ((14 : Nat) : Int), .l [b0, b1, b2, b3, b4, b5, b6, b7, b8, b9, b10, b11, b12, b13, b14, b15], .l h1]) = some (0, [.i ((2 ^ 3 : Nat) : Int), .i ((3 : Nat) : Int), .i ((14 + 1 : Nat) : Int), .l (stepV 3 [b0, b1, b2, b3, b4, b5, b6, b7, b8, b9, b10, b11, b12, b13, b14, b15] 14), .l h1]) := by kernel_rfl
theorem ff_3_15 (b0 b1 b2 b3 b4 b5 b6 b7 b8 b9 b10 b11 b12 b13 b14 b15 : Int) (h1 : List Int) : f10_0 (0, [.i ((2 ^ 3 : Nat) : Int), .i ((3 : Nat) : Int), .i ((15 : Nat) : Int), .l [b0, b1, b2, b3, b4, b5, b6, b7, b8, b9, b10, b11, b12, b13, b14, b15], .l h1]) = some (0, [.i ((2 ^ 3 : Nat) : Int), .i ((3 : Nat) : Int), .i ((15 + 1 : Nat) : Int), .l (stepV 3 [b0, b1, b2, b3, b4, b5, b6, b7, b8, b9, b10, b11, b12, b13, b14, b15] 15), .l h1]) := by kernel_rfl
theorem ff (r i : Nat) (hr : r < 4) (hi : i < 16) (b h1 : List Int) (hb : b.length = 16) : f10_0 (0, [.i ((2 ^ r : Nat) : Int), .i (r : Int), .i (i : Int), .l b, .l h1]) = some (0, [.i ((2 ^ r : Nat) : Int), .i (r : Int), .i ((i + 1 : Nat) : Int), .l (stepV r b i), .l h1]) := by
  obtain ⟨b0, b1, b2, b3, b4, b5, b6, b7, b8, b9, b10, b11, b12, b13, b14, b15, rfl⟩ := len16 hb
  match r, i, hr, hi with
  | 0, 0, _, _ => exact ff_0_0 b0 b1 b2 b3 b4 b5 b6 b7 b8 b9 b10 b11 b12 b13 b14 b15 h1
  | 0, 1, _, _ => exact ff_0_1 b0 b1 b2 b3 b4 b5 b6 b7 b8 b9 b10 b11 b12 b13 b14 b15 h1
  | 0, 2, _, _ => exact ff_0_2 b0 b1 b2 b3 b4 b5 b6 b7 b8 b9 b10 b11 b12 b13 b14 b15 h1
  | 0, 3, _, _ => exact ff_0_3 b0 b1 b2 b3 b4 b5 b6 b7 b8 b9 b10 b11 b12 b13 b14 b15 h1
  | 0, 4, _, _ => exact ff_0_4 b0 b1 b2 b3 b4 b5 b6 b7 b8 b9 b10 b11 b12 b13 b14 b15 h1
  | 0, 5, _, _ => exact ff_0_5 b0 b1 b2 b3 b4 b5 b6 b7 b8 b9 b10 b11 b12 b13 b14 b15 h1
  | 0, 6, _, _ => exact ff_0_6 b0 b1 b2 b3 b4 b5 b6 b7 b8 b9 b10 b11 b12 b13 b14 b15 h1
  | 0, 7, _, _ => exact ff_0_7 b0 b1 b2 b3 b4 b5 b6 b7 b8 b9 b10 b11 b12 b13 b14 b15 h1
  | 0, 8, _, _ => exact ff_0_8 b0 b1 b2 b3 b4 b5 b6 b7 b8 b9 b10 b11 b12 b13 b14 b15 h1
  | 0, 9, _, _ => exact ff_0_9 b0 b1 b2 b3 b4 b5 b6 b7 b8 b9 b10 b11 b12 b13 b14 b15 h1
  | 0, 10, _, _ => exact ff_0_10 b0 b1 b2 b3 b4 b5 b6 b7 b8 b9 b10 b11 b12 b13 b14 b15 h1
  | 0, 11, _, _ => exact ff_0_11 b0 b1 b2 b3 b4 b5 b6 b7 b8 b9 b10 b11 b12 b13 b14 b15 h1
  | 0, 12, _, _ => exact ff_0_12 b0 b1 b2 b3 b4 b5 b6 b7 b8 b9 b10 b11 b12 b13 b14 b15 h1
  | 0, 13, _, _ => exact ff_0_13 b0 b1 b2 b3 b4 b5 b6 b7 b8 b9 b10 b11 b12 b13 b14 b15 h1
  | 0, 14, _, _ => exact ff_0_14 b0 b1 b2 b3 b4 b5 b6 b7 b8 b9 b10 b11 b12 b13 b14 b15 h1
  | 0, 15, _, _ => exact ff_0_15 b0 b1 b2 b3 b4 b5 b6 b7 b8 b9 b10 b11 b12 b13 b14 b15 h1
  | 1, 0, _, _ => exact ff_1_0 b0 b1 b2 b3 b4 b5 b6 b7 b8 b9 b10 b11 b12 b13 b14 b15 h1
  | 1, 1, _, _ => exact ff_1_1 b0 b1 b2 b3 b4 b5 b6 b7 b8 b9 b10 b11 b12 b13 b14 b15 h1
  | 1, 2, _, _ => exact ff_1_2 b0 b1 b2 b3 b4 b5 b6 b7 b8 b9 b10 b11 b12 b13 b14 b15 h1
  | 1, 3, _, _ => exact ff_1_3 b0 b1 b2 b3 b4 b5 b6 b7 b8 b9 b10 b11 b12 b13 b14 b15 h1
  | 1, 4, _, _ => exact ff_1_4 b0 b1 b2 b3 b4 b5 b6 b7 b8 b9 b10 b11 b12 b13 b14 b15 h1
  | 1, 5, _, _ => exact ff_1_5 b0 b1 b2 b3 b4 b5 b6 b7 b8 b9 b10 b11 b12 b13 b14 b15 h1
  | 1, 6, _, _ => exact ff_1_6 b0 b1 b2 b3 b4 b5 b6 b7 b8 b9 b10 b11 b12 b13 b14 b15 h1
  | 1, 7, _, _ => exact ff_1_7 b0 b1 b2 b3 b4 b5 b6 b7 b8 b9 b10 b11 b12 b13 b14 b15 h1
  | 1, 8, _, _ => exact ff_1_8 b0 b1 b2 b3 b4 b5 b6 b7 b8 b9 b10 b11 b12 b13 b14 b15 h1
  | 1, 9, _, _ => exact ff_1_9 b0 b1 b2 b3 b4 b5 b6 b7 b8 b9 b10 b11 b12 b13 b14 b15 h1
  | 1, 10, _, _ => exact ff_1_10 b0 b1 b2 b3 b4 b5 b6 b7 b8 b9 b10 b11 b12 b13 b14 b15 h1
  | 1, 11, _, _ => exact ff_1_11 b0 b1 b2 b3 b4 b5 b6 b7 b8 b9 b10 b11 b12 b13 b14 b15 h1
  | 1, 12, _, _ => exact ff_1_12 b0 b1 b2 b3 b4 b5 b6 b7 b8 b9 b10 b11 b12 b13 b14 b15 h1
  | 1, 13, _, _ => exact ff_1_13 b0 b1 b2 b3 b4 b5 b6 b7 b8 b9 b10 b11 b12 b13 b14 b15 h1
  | 1, 14, _, _ => exact ff_1_14 b0 b1 b2 b3 b4 b5 b6 b7 b8 b9 b10 b11 b12 b13 b14 b15 h1
  | 1, 15, _, _ => exact ff_1_15 b0 b1 b2 b3 b4 b5 b6 b7 b8 b9 b10 b11 b12 b13 b14 b15 h1
  | 2, 0, _, _ => exact ff_2_0 b0 b1 b2 b3 b4 b5 b6 b7 b8 b9 b10 b11 b12 b13 b14 b15 h1
  | 2, 1, _, _ => exact ff_2_1 b0 b1 b2 b3 b4 b5 b6 b7 b8 b9 b10 b11 b12 b13 b14 b15 h1
  | 2, 2, _, _ => exact ff_2_2 b0 b1 b2 b3 b4 b5 b6 b7 b8 b9 b10 b11 b12 b13 b14 b15 h1
  | 2, 3, _, _ => exact ff_2_3 b0 b1 b2 b3 b4 b5 b6 b7 b8 b9 b10 b11 b12 b13 b14 b15 h1
  | 2, 4, _, _ => exact ff_2_4 b0 b1 b2 b3 b4 b5 b6 b7 b8 b9 b10 b11 b12 b13 b14 b15 h1
  | 2, 5, _, _ => exact ff_2_5 b0 b1 b2 b3 b4 b5 b6 b7 b8 b9 b10 b11 b12 b13 b14 b15 h1
  | 2, 6, _, _ => exact ff_2_6 b0 b1 b2 b3 b4 b5 b6 b7 b8 b9 b10 b11 b12 b13 b14 b15 h1
  | 2, 7, _, _ => exact ff_2_7 b0 b1 b2 b3 b4 b5 b6 b7 b8 b9 b10 b11 b12 b13 b14 b15 h1
  | 2, 8, _, _ => exact ff_2_8 b0 b1 b2 b3 b4 b5 b6 b7 b8 b9 b10 b11 b12 b13 b14 b15 h1
  | 2, 9, _, _ => exact ff_2_9 b0 b1 b2 b3 b4 b5 b6 b7 b8 b9 b10 b11 b12 b13 b14 b15 h1
  | 2, 10, _, _ => exact ff_2_10 b0 b1 b2 b3 b4 b5 b6 b7 b8 b9 b10 b11 b12 b13 b14 b15 h1
  | 2, 11, _, _ => exact ff_2_11 b0 b1 b2 b3 b4 b5 b6 b7 b8 b9 b10 b11 b12 b13 b14 b15 h1
  | 2, 12, _, _ => exact ff_2_12 b0 b1 b2 b3 b4 b5 b6 b7 b8 b9 b10 b11 b12 b13 b14 b15 h1
  | 2, 13, _, _ => exact ff_2_13 b0 b1 b2 b3 b4 b5 b6 b7 b8 b9 b10 b11 b12 b13 b14 b15 h1
  | 2, 14, _, _ => exact ff_2_14 b0 b1 b2 b3 b4 b5 b6 b7 b8 b9 b10 b11 b12 b13 b14 b15 h1
  | 2, 15, _, _ => exact ff_2_15 b0 b1 b2 b3 b4 b5 b6 b7 b8 b9 b10 b11 b12 b13 b14 b15 h1
  | 3, 0, _, _ => exact ff_3_0 b0 b1 b2 b3 b4 b5 b6 b7 b8 b9 b10 b11 b12 b13 b14 b15 h1
  | 3, 1, _, _ => exact ff_3_1 b0 b1 b2 b3 b4 b5 b6 b7 b8 b9 b10 b11 b12 b13 b14 b15 h1
  | 3, 2, _, _ => exact ff_3_2 b0 b1 b2 b3 b4 b5 b6 b7 b8 b9 b10 b11 b12 b13 b14 b15 h1
  | 3, 3, _, _ => exact ff_3_3 b0 b1 b2 b3 b4 b5 b6 b7 b8 b9 b10 b11 b12 b13 b14 b15 h1
  | 3, 4, _, _ => exact ff_3_4 b0 b1 b2 b3 b4 b5 b6 b7 b8 b9 b10 b11 b12 b13 b14 b15 h1
  | 3, 5, _, _ => exact ff_3_5 b0 b1 b2 b3 b4 b5 b6 b7 b8 b9 b10 b11 b12 b13 b14 b15 h1
  | 3, 6, _, _ => exact ff_3_6 b0 b1 b2 b3 b4 b5 b6 b7 b8 b9 b10 b11 b12 b13 b14 b15 h1
  | 3, 7, _, _ => exact ff_3_7 b0 b1 b2 b3 b4 b5 b6 b7 b8 b9 b10 b11 b12 b13 b14 b15 h1
  | 3, 8, _, _ => exact ff_3_8 b0 b1 b2 b3 b4 b5 b6 b7 b8 b9 b10 b11 b12 b13 b14 b15 h1
  | 3, 9, _, _ => exact ff_3_9 b0 b1 b2 b3 b4 b5 b6 b7 b8 b9 b10 b11 b12 b13 b14 b15 h1
  | 3, 10, _, _ => exact ff_3_10 b0 b1 b2 b3 b4 b5 b6 b7 b8 b9 b10 b11 b12 b13 b14 b15 h1
  | 3, 11, _, _ => exact ff_3_11 b0 b1 b2 b3 b4 b5 b6 b7 b8 b9 b10 b11 b12 b13 b14 b15 h1
  | 3, 12, _, _ => exact ff_3_12 b0 b1 b2 b3 b4 b5 b6 b7 b8 b9 b10 b11 b12 b13 b14 b15 h1
  | 3, 13, _, _ => exact ff_3_13 b0 b1 b2 b3 b4 b5 b6 b7 b8 b9 b10 b11 b12 b13 b14 b15 h1
  | 3, 14, _, _ => exact ff_3_14 b0 b1 b2 b3 b4 b5 b6 b7 b8 b9 b10 b11 b12 b13 b14 b15 h1
  | 3, 15, _, _ => exact ff_3_15 b0 b1 b2 b3 b4 b5 b6 b7 b8 b9 b10 b11 b12 b13 b14 b15 h1
  | r, i + 16, _, h => exact absurd h (by omega)
  | r + 4, i, h, _ => exact absurd h (by omega)
def roundS (b : List Int) (r : Nat) : List Int := (List.range 16).foldl (stepV r) b
theorem roundS_len (b : List Int) (r : Nat) : (roundS b r).length = b.length := foldl_len (stepV_len r) _ b
theorem roundS_eq (b : List Int) (r : Nat) : roundS b r = (preP r 16).foldl (atV turnV TS r) b := by
  unfold roundS preP
  rw [List.foldl_filter]
  rfl
theorem inner_ok (r : Nat) (hr : r < 4) (b h1 : List Int) (hb : b.length = 16) : L10_0 (0, [.i ((2 ^ r : Nat) : Int), .i (r : Int), .i 0, .l b, .l h1]) = some (0, [.i ((2 ^ r : Nat) : Int), .i (r : Int), .l (roundS b r), .l h1]) := by
  refine loop1_run (fun k => [.i ((2 ^ r : Nat) : Int), .i (r : Int), .i (k : Int), .l ((List.range k).foldl (stepV r) b), .l h1]) 16 (fun k hk => ?_) ?_ (by omega)
  · rw [List.range_succ, List.foldl_append]
    exact ff r k hr hk _ h1 ((foldl_len (stepV_len r) _ b).trans hb)
  · show f10_0 (0, [.i ((2 ^ r : Nat) : Int), .i (r : Int), .i ((16 : Nat) : Int), .l (roundS b r), .l h1]) = _
    generalize roundS b r = x
    kernel_rfl
theorem outer_step (r : Nat) (hr : r < 4) (b h1 : List Int) (hb : b.length = 16) : f10_1 (0, [.i ((2 ^ r : Nat) : Int), .i (r : Int), .l b, .l h1]) = some (0, [.i ((2 ^ (r + 1) : Nat) : Int), .i ((r + 1 : Nat) : Int), .l (roundS b r), .l h1]) := by
  have h4 : (r : Int) < 4 := by omega
  have w1 : IntKind.i64.wrap (2 * ((2 ^ r : Nat) : Int)) = ((2 ^ (r + 1) : Nat) : Int) := by
    match r, hr with
    | 0, _ => rfl
    | 1, _ => rfl
    | 2, _ => rfl
    | 3, _ => rfl
    | r + 4, h => exact absurd h (by omega)
  have w2 : IntKind.i64.wrap ((r : Int) + 1) = ((r + 1 : Nat) : Int) := by rw [wrap64 (by omega) (by omega)]; rfl
  simp -implicitDefEqProofs only [f10_1, f10_1_0, asI_i, asL_l, asE_nil, Bool.cond_decide, if_pos h4, inner_ok r hr b h1 hb, altK_0, w1, w2]
theorem outer_ok (b h1 : List Int) (hb : b.length = 16) : L10_1 (0, [.i 1, .i 0, .l b, .l h1]) = some (0, [.l (roundsV turnV TS rsF b), .l h1]) := by
  have e : ∀ b, roundsV turnV TS rsF b = (List.range 4).foldl roundS b := by
    intro b
    have hr : List.range 4 = [0, 1, 2, 3] := by decide
    rw [hr]
    simp only [List.foldl_cons, List.foldl_nil, roundsV, rsF, roundS_eq]
  rw [e]
  refine loop1_run (fun k => [.i ((2 ^ k : Nat) : Int), .i (k : Int), .l ((List.range k).foldl roundS b), .l h1]) 4 (fun k hk => ?_) ?_ (by omega)
  · rw [List.range_succ, List.foldl_append]
    exact outer_step k hk _ h1 ((foldl_len roundS_len _ b).trans hb)
  · generalize (List.range 4).foldl roundS b = x
    kernel_rfl
theorem take16 {l : List Int} (h : l.length = 16) : List.take 16 l = l := List.take_of_length_le (by omega)
theorem drop16 {l : List Int} (h : l.length = 16) : List.drop (0 + 16) l = [] := List.drop_of_length_le (by omega)
theorem zs_len : ([0, 0, 0, 0, 0, 0, 0, 0, 0, 0, 0, 0, 0, 0, 0, 0] : List Int).length = 16 := rfl
theorem fwd_ok (b : List Int) (hb : b.length = 16) : g10 (0, [.l b]) = some (0, [.l (roundsV turnV TS rsF b)]) := by
  have hl : (roundsV turnV TS rsF b).length = 16 := (roundsV_len _ _ _ b).trans hb
  have e := outer_ok b [0, 0, 0, 0, 0, 0, 0, 0, 0, 0, 0, 0, 0, 0, 0, 0] hb
  generalize roundsV turnV TS rsF b = x at hl e ⊢
  simp -implicitDefEqProofs only [g10, g10_0, asL_l, asE_nil, e, altK_0, take16 hl, hl, drop16 zs_len, List.append_nil, zs_len, Nat.le_refl, Nat.zero_add, if_true]
def nearV (b : List Int) (k : Nat) : Bool := decide (-4294967296 ≤ b.getD k 0 ∧ b.getD k 0 ≤ 4294967296)
def nearB (b : List Int) : Bool := (List.range 16).all (nearV b)
theorem near_ok (b : List Int) (hb : b.length = 16) : g6 (0, [.l b]) = some (0, [.b (nearB b)]) := by
  have hl : L6_0 (0, [.i 0, .l b]) = if nearB b then some (0, [.l b]) else some (1, [.l b]) := by
    refine loop1_all (fun k => [.i (k : Int), .l b]) (nearV b) 16 (fun k hk hp => ?_) (fun k hk hp => ?_) (by simp [f6_0, f6_0_0]) (by omega)
    all_goals
      have hx := get_some (l := b) (i := k) (by omega)
      have h1 : (k : Int) < 16 := by omega
      have h0 : (0 : Int) ≤ k ∧ (k : Int) < 16 := by omega
      have w2 : IntKind.i64.wrap ((k : Int) + 1) = ((k + 1 : Nat) : Int) := by rw [wrap64 (by omega) (by omega)]; rfl
      generalize hxv : b.getD k 0 = x at hx
      simp only [nearV, hxv, decide_eq_true_eq, decide_eq_false_iff_not] at hp
      simp -implicitDefEqProofs only [f6_0, f6_0_0, asI_i, asL_l, asE_nil, Bool.cond_decide, if_pos h1, if_pos h0, Int.toNat_natCast, hx, optK_some, w2]
    · rw [if_neg (by omega), if_neg (by omega)]
    · by_cases hn : x < -4294967296
      · rw [if_pos hn]
      · rw [if_neg hn, if_pos (by omega)]
  cases hn : nearB b <;> rw [hn] at hl <;> simp -implicitDefEqProofs only [g6, g6_0, asL_l, asE_nil, hl, if_true, if_false, Bool.false_eq_true, altK_0, altK_1]
theorem netForward_ok (b : List Int) (hb : b.length = 16) : g3 (0, [.l b]) = some (0, [.b true]) := by
  have hl : (roundsV turnV TS rsF b).length = 16 := (roundsV_len _ _ _ b).trans hb
  have h16 : 16 ≤ b.length := by omega
  have e9 := g9_ok TS b rfl hb
  have e10 := fwd_ok b hb
  generalize roundsV turnV TS rsF b = x at hl e9 e10
  cases hn : nearB b <;> simp -implicitDefEqProofs only [g3, g3_0, asL_l, asB_b, asE_nil, if_pos h16, take16 hb, near_ok b hb, hn, altK_0, Bool.not_true, Bool.not_false, cond_true, cond_false, awakeL_ok, new_ok, e9, e10, hl, if_true, decide_true]

/-! ### Turns can be taken back -/
def In64 (v : Int) : Prop := -9223372036854775808 ≤ v ∧ v ≤ 9223372036854775807
theorem w64_in (x : Int) : In64 (w64 x) := by
  unfold In64 w64
  rw [IntKind.wrap_i64]
  omega
theorem add_inj {x y c : Int} (hx : In64 x) (hy : In64 y) (h : w64 (x + c) = w64 (y + c)) : x = y := by
  unfold In64 at hx hy
  unfold w64 at h
  rw [IntKind.wrap_i64, IntKind.wrap_i64] at h
  omega
theorem sub_inj {x y c : Int} (hx : In64 x) (hy : In64 y) (h : w64 (x - c) = w64 (y - c)) : x = y := by
  unfold In64 at hx hy
  unfold w64 at h
  rw [IntKind.wrap_i64, IntKind.wrap_i64] at h
  omega
theorem turn_in (p u x y : Int) : In64 (turnV p u x y).1 ∧ In64 (turnV p u x y).2 := ⟨w64_in _, w64_in _⟩
theorem turn_inj {p u x y x' y' : Int} (hx : In64 x) (hy : In64 y) (hx' : In64 x') (hy' : In64 y') (h1 : (turnV p u x y).1 = (turnV p u x' y').1) (h2 : (turnV p u x y).2 = (turnV p u x' y').2) : x = x' ∧ y = y' := by
  unfold turnV at h1 h2
  simp only at h1 h2
  rw [h2] at h1
  have e1 := add_inj (w64_in _) (w64_in _) h1
  rw [e1] at h2
  have e2 := sub_inj hy hy' h2
  subst e2
  exact ⟨add_inj hx hx' e1, rfl⟩
def All64 (b : List Int) : Prop := ∀ k, In64 (b.getD k 0)
theorem getD_set (l : List Int) (i j : Nat) (x : Int) : (l.set i x).getD j 0 = if i = j ∧ j < l.length then x else l.getD j 0 := by
  simp only [List.getD_eq_getElem?_getD, List.getElem?_set]
  by_cases h : i = j
  · subst h
    by_cases h2 : i < l.length
    · simp [h2]
    · simp [h2]
  · simp [h]
theorem atV_get (tv : Int → Int → Int → Int → Int × Int) (ts : List Int) {r i : Nat} {b : List Int} (hi : i + 2 ^ r < b.length) (j : Nat) : (atV tv ts r b i).getD j 0 =
    if j = i + 2 ^ r then (tv (ts.getD (2 * tix r i) 0) (ts.getD (2 * tix r i + 1) 0) (b.getD i 0) (b.getD (i + 2 ^ r) 0)).2 else
    if j = i then (tv (ts.getD (2 * tix r i) 0) (ts.getD (2 * tix r i + 1) 0) (b.getD i 0) (b.getD (i + 2 ^ r) 0)).1 else b.getD j 0 := by
  have hp : 1 ≤ 2 ^ r := Nat.one_le_two_pow
  unfold atV
  rw [getD_set, getD_set, List.length_set]
  by_cases h1 : j = i + 2 ^ r
  · rw [if_pos ⟨h1.symm, by omega⟩, if_pos h1]
  · rw [if_neg (fun h => h1 h.1.symm), if_neg h1]
    by_cases h2 : j = i
    · rw [if_pos ⟨h2.symm, by omega⟩, if_pos h2]
    · rw [if_neg (fun h => h2 h.1.symm), if_neg h2]
theorem at_all {ts : List Int} {r i : Nat} {b : List Int} (hi : i + 2 ^ r < b.length) (h : All64 b) : All64 (atV turnV ts r b i) := by
  intro j
  rw [atV_get turnV ts hi]
  split
  · exact (turn_in _ _ _ _).2
  · split
    · exact (turn_in _ _ _ _).1
    · exact h j
theorem at_inj {ts : List Int} {r i : Nat} {a b : List Int} (ha : a.length = 16) (hb : b.length = 16) (hi : i + 2 ^ r < 16) (h1 : All64 a) (h2 : All64 b) (h : atV turnV ts r a i = atV turnV ts r b i) : a = b := by
  have hp : 1 ≤ 2 ^ r := Nat.one_le_two_pow
  have hj : ∀ j, (atV turnV ts r a i).getD j 0 = (atV turnV ts r b i).getD j 0 := fun j => by rw [h]
  have g1 := hj i
  have g2 := hj (i + 2 ^ r)
  rw [atV_get turnV ts (by omega), atV_get turnV ts (by omega), if_neg (by omega), if_pos rfl, if_neg (by omega), if_pos rfl] at g1
  rw [atV_get turnV ts (by omega), atV_get turnV ts (by omega), if_pos rfl, if_pos rfl] at g2
  obtain ⟨e1, e2⟩ := turn_inj (h1 i) (h1 (i + 2 ^ r)) (h2 i) (h2 (i + 2 ^ r)) g1 g2
  refine List.ext_getElem (ha.trans hb.symm) fun j hja hjb => ?_
  have hjj : a.getD j 0 = b.getD j 0 := by
    by_cases hj1 : j = i + 2 ^ r
    · rw [hj1]; exact e2
    · by_cases hj2 : j = i
      · rw [hj2]; exact e1
      · have g := hj j
        rw [atV_get turnV ts (by omega), atV_get turnV ts (by omega), if_neg hj1, if_neg hj2, if_neg hj1, if_neg hj2] at g
        exact g
  simpa [List.getD_eq_getElem?_getD, List.getElem?_eq_getElem hja, List.getElem?_eq_getElem hjb] using hjj
theorem isP_far {r i : Nat} (hr : r < 4) (hi : i < 16) (h : isP r i = true) : i + 2 ^ r < 16 := by
  have key : ∀ r : Fin 4, ∀ i : Fin 16, isP r.1 i.1 = true → i.1 + 2 ^ r.1 < 16 := by decide
  exact key ⟨r, hr⟩ ⟨i, hi⟩ h
theorem fold_inj {ts : List Int} {r : Nat} : ∀ (l : List Nat) (_ : ∀ i ∈ l, i + 2 ^ r < 16) {a b : List Int} (_ : a.length = 16) (_ : b.length = 16) (_ : All64 a) (_ : All64 b), (l.foldl (atV turnV ts r) a = l.foldl (atV turnV ts r) b → a = b) ∧ All64 (l.foldl (atV turnV ts r) a)
  | [], _, a, b, _, _, h1, _ => ⟨fun h => h, h1⟩
  | i :: l, hl, a, b, ha, hb, h1, h2 => by
    have hi := hl i (List.mem_cons_self ..)
    have ih := fold_inj (ts := ts) l (fun j hj => hl j (List.mem_cons_of_mem _ hj)) ((atV_len turnV ts r a i).trans ha) ((atV_len turnV ts r b i).trans hb) (at_all (by omega) h1) (at_all (by omega) h2)
    exact ⟨fun h => at_inj ha hb hi h1 h2 (ih.1 h), ih.2⟩
theorem preP_in {r i : Nat} (hr : r < 4) (h : i ∈ preP r 16) : i + 2 ^ r < 16 := by
  unfold preP at h
  rw [List.mem_filter, List.mem_range] at h
  exact isP_far hr h.1 h.2
theorem rounds_inj {ts : List Int} : ∀ (rs : List Nat) (_ : ∀ r ∈ rs, r < 4) {a b : List Int} (_ : a.length = 16) (_ : b.length = 16) (_ : All64 a) (_ : All64 b), roundsV turnV ts rs a = roundsV turnV ts rs b → a = b
  | [], _, a, b, _, _, _, _, h => h
  | r :: rs, hr, a, b, ha, hb, h1, h2, h => by
    have hr4 := hr r (List.mem_cons_self ..)
    have f1 := fold_inj (ts := ts) (r := r) (preP r 16) (fun i hi => preP_in hr4 hi) ha hb h1 h2
    have f2 := fold_inj (ts := ts) (r := r) (preP r 16) (fun i hi => preP_in hr4 hi) hb ha h2 h1
    exact f1.1 (rounds_inj rs (fun r hr' => hr r (List.mem_cons_of_mem _ hr')) ((foldl_len (atV_len turnV ts r) _ a).trans ha) ((foldl_len (atV_len turnV ts r) _ b).trans hb) f1.2 f2.2 h)
theorem fwd_inj {a b : List Int} (ha : a.length = 16) (hb : b.length = 16) (h1 : All64 a) (h2 : All64 b) : (roundsV turnV TS rsF a = roundsV turnV TS rsF b) = (a = b) :=
  propext ⟨rounds_inj rsF (by decide) ha hb h1 h2, fun h => by rw [h]⟩
theorem all64_of {l : List Int} (h : ∀ x ∈ l, (Lit.int .i64 x).wf = true) : All64 l := by
  intro k
  by_cases hk : k < l.length
  · have e : l.getD k 0 = l[k] := by simp [List.getD_eq_getElem?_getD, List.getElem?_eq_getElem hk]
    rw [e]
    exact Sx.wf64 (h _ (List.getElem_mem hk))
  · have e : l.getD k 0 = 0 := by simp [List.getD_eq_getElem?_getD, List.getElem?_eq_none (Nat.le_of_not_lt hk)]
    rw [e]
    unfold In64
    omega
theorem ts16 : List.take 16 (TS ++ List.drop (0 + TS.length) [0, 0, 0, 0, 0, 0, 0, 0, 0, 0, 0, 0, 0, 0, 0, 0]) = TS := rfl
theorem ts16b : TS ++ List.drop 16 [0, 0, 0, 0, 0, 0, 0, 0, 0, 0, 0, 0, 0, 0, 0, 0] = TS := rfl
theorem ts16c : List.take 16 TS = TS := rfl
theorem ts_len : TS.length = 16 := rfl
theorem ts_len2 : (TS ++ List.drop (0 + TS.length) [0, 0, 0, 0, 0, 0, 0, 0, 0, 0, 0, 0, 0, 0, 0, 0]).length = 16 := rfl
theorem netApart_ok (a b : List Int) (ha : a.length = 16) (hb : b.length = 16) (h1 : All64 a) (h2 : All64 b) : g4 (0, [.l a, .l b]) = some (0, [.b true]) := by
  have la : (roundsV turnV TS rsF a).length = 16 := (roundsV_len _ _ _ a).trans ha
  have lb : (roundsV turnV TS rsF b).length = 16 := (roundsV_len _ _ _ b).trans hb
  have ha16 : 16 ≤ a.length := by omega
  have hb16 : 16 ≤ b.length := by omega
  have ea := g9_ok TS a rfl ha
  have eb := g9_ok TS b rfl hb
  have hi := fwd_inj ha hb h1 h2
  generalize roundsV turnV TS rsF a = x at la ea hi
  generalize roundsV turnV TS rsF b = y at lb eb hi
  have hd : decide (decide (x = y) = decide (a = b)) = true := by simp only [hi, decide_true]
  cases hn : nearB a
  · simp -implicitDefEqProofs only [g4, g4_0, asL_l, asB_b, asE_nil, if_pos ha16, take16 ha, near_ok a ha, hn, altK_0, Bool.not_true, Bool.not_false, cond_true, cond_false, awakeL_ok]
  · cases hm : nearB b
    · simp -implicitDefEqProofs only [g4, g4_0, asL_l, asB_b, asE_nil, if_pos ha16, take16 ha, near_ok a ha, hn, altK_0, Bool.not_true, Bool.not_false, cond_true, cond_false, if_pos hb16, take16 hb, near_ok b hb, hm, awakeL_ok]
    · simp -implicitDefEqProofs only [g4, g4_0, asL_l, asB_b, asE_nil, if_pos ha16, take16 ha, near_ok a ha, hn, altK_0, Bool.not_true, Bool.not_false, cond_true, cond_false, if_pos hb16, take16 hb, near_ok b hb, hm, awakeL_ok, new_ok, ts16b, ts16c, ts_len, Nat.le_refl, Nat.zero_add, if_true, ea, eb, la, lb, ha, hb, hd]
theorem ev_3 (l : List Int) (hl : l.length = 16) : evF tab 21 3 [.ints .i64 l] [] = some (.bool true, [], []) := (ok3 0).ret (i := 0) (ls := [.l l]) (j := 0) (r := [.b true]) (netForward_ok l hl) rfl rfl rfl rfl
theorem ev_4 (l m : List Int) (hl : l.length = 16) (hm : m.length = 16) (h1 : All64 l) (h2 : All64 m) : evF tab 21 4 [.ints .i64 l, .ints .i64 m] [] = some (.bool true, [], []) := (ok4 0).ret (i := 0) (ls := [.l l, .l m]) (j := 0) (r := [.b true]) (netApart_ok l m hl hm h1 h2) rfl rfl rfl rfl

end Go.Proofs.Ytbamcklflcikoaa